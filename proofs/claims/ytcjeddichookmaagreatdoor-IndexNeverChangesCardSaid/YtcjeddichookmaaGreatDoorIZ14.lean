/- Plain: indexes as lists of items in ascending order of their keys: putting, leaving out, finding, and what begins with a text. -/
import Derived.Test.YtcjeddichookmaaGreatDoorIZ2
import Derived.Test.YtcjeddichookmaaGreatDoorIZ13
import Derived.Sort.Walk0
import Derived.Test.YtcjeddichookmaaGreatDoorProg
import Derived.WalkKit
import Derived.WalkSpells
import Derived.WalkLawsBesides
import Derived.Below
import Derived.Deep.QuietTactic
import Derived.BigQuiet
import Derived.Lib.QuietBelow
import Derived.Lib.Strings
import Derived.Lib.Hide
import Derived.Deep.RegionWith
import Derived.Deep.RegionHeld3
import Derived.Lib.IndexBytes
import Derived.Test.YtcjeddichookmaaGreatDoorIZ5
namespace Go.Proofs.YtcjeddichookmaaGreatDoor
open Go.RowKit Go.Sort
set_option linter.unusedVariables false
set_option linter.unusedSimpArgs false
set_option maxRecDepth 100000
set_option linter.unusedVariables false
structure It where
  k : ByteArray
  t : ByteArray
  z : Int
  r : Int
def It.vals (x : It) : List Value := [.string x.k, .string x.t, .int .i64 x.z, .int .i64 x.r]
def itsC (l : List It) : List Value := l.flatMap It.vals
theorem itsC_len : ∀ l : List It, (itsC l).length = l.length * 4
  | [] => rfl
  | x :: l => by rw [itsC, List.flatMap_cons, List.length_append, ← itsC, itsC_len l]; simp [It.vals]; omega
theorem itsC_app (a b : List It) : itsC (a ++ b) = itsC a ++ itsC b := by simp [itsC]
theorem itsC_at : ∀ (l : List It) (i j : Nat) (x : It), l[i]? = some x → j < 4 → (itsC l)[4 * i + j]? = x.vals[j]?
  | [], i, j, x, h, hj => by simp at h
  | y :: l, 0, j, x, h, hj => by
    simp only [List.getElem?_cons_zero, Option.some.injEq] at h
    subst h
    rw [itsC, List.flatMap_cons, List.getElem?_append_left (by simp [It.vals]; omega)]
    simp
  | y :: l, i + 1, j, x, h, hj => by
    rw [itsC, List.flatMap_cons, ← itsC, List.getElem?_append_right (by simp [It.vals]; omega)]
    rw [← itsC_at l i j x (by simpa using h) hj]
    congr 1
    simp [It.vals]; omega
def ltB (a b : ByteArray) : Bool := decide (a.data.toList < b.data.toList)
theorem less_ltB (a b : ByteArray) : Op.bytesLess a.toList b.toList = ltB a b := by rw [bytesLess_eq, Lib.toList_data, Lib.toList_data]; rfl
theorem ltB_irr (a : ByteArray) : ltB a a = false := by simp [ltB, List.lt_irrefl]
theorem ltB_tr {a b c : ByteArray} (h : ltB a b = true) (k : ltB b c = true) : ltB a c = true := by
  simp only [ltB, decide_eq_true_eq] at *
  exact List.lt_trans h k
theorem ltB_tot (a b : ByteArray) : ltB a b = true ∨ a = b ∨ ltB b a = true := by
  simp only [ltB, decide_eq_true_eq]
  by_cases h1 : a.data.toList < b.data.toList
  · exact .inl h1
  · by_cases h2 : a.data.toList = b.data.toList
    · exact .inr (.inl (bytes_ext h2))
    · exact .inr (.inr (lt_tri _ _ h2 h1))
theorem ordK : Tr.Ord It.k ltB := ⟨ltB_irr, fun _ _ _ => ltB_tr, ltB_tot⟩
theorem ltB_asym {a b : ByteArray} (h : ltB a b = true) : ltB b a = false := Tr.not_lt_of ordK h
theorem ltB_ne {a b : ByteArray} (h : ltB a b = true) : a ≠ b := fun e => by rw [e, ltB_irr] at h; cases h
abbrev UpI (l : List It) : Prop := Tr.Up It.k ltB l
abbrev ITr := Tr.Tree It
def leB (a b : ByteArray) : Bool := ltB a b || decide (a = b)
theorem beq_dec (a b : ByteArray) : (a.toList == b.toList) = decide (a = b) := by
  rw [Bool.eq_iff_iff, Lib.toList_data, Lib.toList_data, beq_iff_eq, decide_eq_true_eq]
  exact ⟨bytes_ext, fun h => by rw [h]⟩
theorem less_leB (a b : ByteArray) : (Op.bytesLess a.toList b.toList || a.toList == b.toList) = leB a b := by rw [less_ltB, beq_dec]; rfl
theorem leB_not (a b : ByteArray) : leB a b = !ltB b a := by
  unfold leB
  rcases ltB_tot a b with h | h | h
  · rw [h, ltB_asym h]; rfl
  · subst h; rw [ltB_irr]; simp
  · rw [h, ltB_asym h, decide_eq_false (ltB_ne h).symm]; rfl
def ixPut (l : List It) (x : It) : List It := l.filter (fun y => ltB y.k x.k) ++ x :: l.filter (fun y => ltB x.k y.k)
def ixDel (l : List It) (k : ByteArray) : List It := l.filter (fun y => decide (y.k ≠ k))
def ixGet (l : List It) (k : ByteArray) : Option It := l.find? fun y => decide (y.k = k)
def ixSize (l : List It) : Int := (l.map It.z).foldr (· + ·) 0
def ixFrom (l : List It) (k : ByteArray) : List It := l.filter (fun y => !ltB y.k k)
theorem filter_eq {p q : It → Bool} : ∀ (l : List It), (∀ y ∈ l, p y = q y) → l.filter p = l.filter q
  | [], _ => rfl
  | x :: l, h => by rw [List.filter_cons, List.filter_cons, h x (by simp), filter_eq l (fun y hy => h y (by simp [hy]))]
theorem up_cons {x : It} {l : List It} (h : UpI (x :: l)) : UpI l ∧ ∀ y ∈ l, ltB x.k y.k = true := by
  have := List.pairwise_cons.1 h
  exact ⟨this.2, this.1⟩
theorem up_filter {l : List It} (p : It → Bool) (h : UpI l) : UpI (l.filter p) := List.Pairwise.filter p h
theorem up_put {l : List It} (x : It) (h : UpI l) : UpI (ixPut l x) := by
  show List.Pairwise _ (_ ++ x :: _)
  rw [List.pairwise_append, List.pairwise_cons]
  refine ⟨up_filter _ h, ⟨fun y hy => (List.mem_filter.1 hy).2, up_filter _ h⟩, ?_⟩
  intro a ha b hb
  have h1 : ltB a.k x.k = true := (List.mem_filter.1 ha).2
  rcases List.mem_cons.1 hb with rfl | hb
  · exact h1
  · exact ltB_tr h1 (List.mem_filter.1 hb).2
theorem up_del {l : List It} (k : ByteArray) (h : UpI l) : UpI (ixDel l k) := up_filter _ h
theorem put_parts {l : List It} (x : It) (h : UpI l) : (ixDel l x.k).filter (fun y => ltB y.k x.k) ++ x :: (ixDel l x.k).filter (fun y => !ltB y.k x.k) = ixPut l x := by
  unfold ixDel ixPut
  rw [List.filter_filter, List.filter_filter]
  congr 1
  · exact filter_eq l fun y _ => by
      cases hl : ltB y.k x.k
      · simp
      · simp [ltB_ne hl]
  · congr 1
    refine filter_eq l fun y _ => ?_
    rcases ltB_tot y.k x.k with k | k | k
    · rw [k, ltB_asym k]; simp
    · rw [k, ltB_irr]; simp
    · rw [k, ltB_asym k]; simp [(ltB_ne k).symm]
theorem ixDel_hit {y : It} {l : List It} {k : ByteArray} (e : y.k = k) (h : ∀ z ∈ l, ltB y.k z.k = true) : ixDel (y :: l) k = l := by
  unfold ixDel
  rw [List.filter_cons, if_neg (by simp [e])]
  exact Tr.filter_all l (fun z hz => by rw [← e]; simpa using (ltB_ne (h z hz)).symm)
theorem ixDel_miss {y : It} {l : List It} {k : ByteArray} (e : y.k ≠ k) : ixDel (y :: l) k = y :: ixDel l k := by
  unfold ixDel
  rw [List.filter_cons, if_pos (by simp [e])]
theorem ixGet_hit {y : It} {l : List It} {k : ByteArray} (e : y.k = k) : ixGet (y :: l) k = some y := by simp [ixGet, e]
theorem ixGet_miss {y : It} {l : List It} {k : ByteArray} (e : y.k ≠ k) : ixGet (y :: l) k = ixGet l k := by simp [ixGet, e]
theorem ixDel_len (l : List It) (k : ByteArray) (h : UpI l) : (ixDel l k).length + (if (ixGet l k).isSome then 1 else 0) = l.length := by
  induction l with
  | nil => simp [ixDel, ixGet]
  | cons y l ih =>
    obtain ⟨h1, h2⟩ := up_cons h
    have := ih h1
    by_cases e : y.k = k
    · rw [ixDel_hit e h2, ixGet_hit e]; simp
    · rw [ixDel_miss e, ixGet_miss e, List.length_cons, List.length_cons]; omega
theorem filter_two (m : List It) (p : It → Bool) : (m.filter p).length + (m.filter fun y => !p y).length = m.length := by
  induction m with
  | nil => rfl
  | cons y m ih => rw [List.filter_cons, List.filter_cons]; cases p y <;> simp <;> omega
theorem ixPut_len (l : List It) (x : It) (h : UpI l) : (ixPut l x).length = if (ixGet l x.k).isSome then l.length else l.length + 1 := by
  have h2 : (ixPut l x).length = (ixDel l x.k).length + 1 := by
    rw [← put_parts x h, List.length_append, List.length_cons]
    have := filter_two (ixDel l x.k) (fun y => ltB y.k x.k)
    omega
  have := ixDel_len l x.k h
  split <;> rename_i hs <;> simp only [hs] at this <;> simp at this <;> omega
theorem mem_put {l : List It} {x y : It} (h : y ∈ ixPut l x) : y = x ∨ y ∈ l := by
  rcases List.mem_append.1 h with h | h
  · exact .inr (List.mem_filter.1 h).1
  · rcases List.mem_cons.1 h with h | h
    · exact .inl h
    · exact .inr (List.mem_filter.1 h).1
theorem mem_del {l : List It} {k : ByteArray} {y : It} (h : y ∈ ixDel l k) : y ∈ l := (List.mem_filter.1 h).1
def bgB (p s : ByteArray) : Bool := Lib.hasPrefix s.data.toList p.data.toList
def cutK (k : ByteArray) : List UInt8 × List UInt8 × Bool := Lib.cut k.data.toList [32]
def restB (l : List UInt8) : Bool := l.all fun b => decide (33 ≤ b.toNat) && decide (b.toNat ≤ 126)
def validI (x : It) : Bool := (cutK x.k).2.2 && readB (toB (cutK x.k).1) && decide ((splitR x.t).2 = 0) && decide (x.k.size ≤ 4096) && decide (0 ≤ x.z) && decide (x.z ≤ 1099511627776) && restB (cutK x.k).2.1
structure OpI where
  del : Bool
  it : It
def ixPutS (l : List It) (x : It) : List It × Int := if validI x then (if (ixGet l x.k).isNone && decide (l.length = 1048576) then (l, 2) else (ixPut l x, 0)) else (l, 1)
def opS (l : List It) (o : OpI) : List It := if o.del then ixDel l o.it.k else (ixPutS l o.it).1
def opsS (os : List OpI) : List It := os.foldl opS []
structure LGood (n : Nat) (l : List It) : Prop where
  up : UpI l
  len : l.length ≤ n
  ok : ∀ x ∈ l, validI x = true
theorem LGood.op {n : Nat} {l : List It} (h : LGood n l) (o : OpI) : LGood (n + 1) (opS l o) := by
  unfold opS
  split
  · exact ⟨up_del _ h.up, by have := ixDel_len l o.it.k h.up; have := h.len; omega, fun x hx => h.ok x (mem_del hx)⟩
  · unfold ixPutS
    split
    · rename_i hv
      split
      · exact ⟨h.up, by have := h.len; show l.length ≤ _; omega, h.ok⟩
      · exact ⟨up_put _ h.up, by have h8 := ixPut_len l o.it h.up; have h9 := h.len; show (ixPut l o.it).length ≤ _; split at h8 <;> omega, fun x hx => (mem_put hx).elim (fun e => e ▸ hv) (h.ok x)⟩
    · exact ⟨h.up, by have := h.len; show l.length ≤ _; omega, h.ok⟩
theorem LGood.nil : LGood 0 [] := ⟨List.Pairwise.nil, Nat.le_refl _, fun _ h => by cases h⟩
theorem valid_z {x : It} (h : validI x = true) : 0 ≤ x.z ∧ x.z ≤ 1099511627776 := by
  unfold validI at h
  simp only [Bool.and_eq_true, decide_eq_true_eq] at h
  exact ⟨h.1.1.2, h.1.2⟩
end Go.Proofs.YtcjeddichookmaaGreatDoor
namespace Go.Proofs.YtcjeddichookmaaGreatDoor
open Go.RowKit Go.Sort
set_option linter.unusedVariables false
set_option linter.unusedSimpArgs false
set_option maxRecDepth 100000
def It.val (x : It) : Value := .agg x.vals.toArray
structure ItsRead (w : World) (A : Option Addr) (n : Nat) (L : List It) : Prop where
  len : L.length = n
  rows : Reads w 4 A n (itsC L)
theorem ItsRead.keep {w w' : World} {A : Option Addr} {n : Nat} {L : List It} (h : ItsRead w A n L) (hb : Below w.heap.size w w') : ItsRead w' A n L := ⟨h.len, h.rows.keep hb⟩
theorem ItsRead.nil_ (w : World) (A : Option Addr) : ItsRead w A 0 [] := ⟨rfl, Reads.nil_ _ _ _⟩
theorem ItsRead.at_ {w : World} {A : Option Addr} {n k : Nat} {L : List It} {x : It} (h : ItsRead w A n L) (hk : L[k]? = some x) :
    ∃ b o, A = some ⟨b, o, none⟩ ∧ ∀ j u, x.vals[j]? = some u → w.cell? ⟨b, o + k * 4 + j, none⟩ = some u := by
  have hkl : k < L.length := (List.getElem?_eq_some_iff.1 hk).1
  obtain ⟨b, o, e, hc⟩ := h.rows.2 (by have := h.len; omega)
  refine ⟨b, o, e, fun j u hu => ?_⟩
  have hj : j < 4 := (List.getElem?_eq_some_iff.1 hu).1
  have := hc (4 * k + j) u (by rw [itsC_at L k j x hk hj]; exact hu)
  rw [show o + k * 4 + j = o + (4 * k + j) by omega]
  exact this
def ndC (p : Nat) (x : It) (L R : Option Addr) (n : Nat) (s : Int) : List Value := [.int .u64 (p : Int), .string x.k, .string x.k, .string x.t, .int .i64 x.z, .int .i64 x.r, .pointer L, .pointer R, .int .i64 (n : Int), .int .i64 s]
def NodeAt (w : World) : ITr → Option Addr → Prop
  | .nil, A => A = none
  | .node p x l r, A => ∃ b L R, A = some ⟨b, 0, none⟩ ∧ p < 18446744073709551616 ∧ RowV w b 58 (ndC p x L R (Tr.len (.node p x l r)) (Tr.total It.z (.node p x l r))) ∧ NodeAt w l L ∧ NodeAt w r R
theorem NodeAt.nil_ {w : World} : NodeAt w .nil none := rfl
theorem NodeAt.keep {w w' : World} (hb : Below w.heap.size w w') : ∀ {t : ITr} {A : Option Addr}, NodeAt w t A → NodeAt w' t A
  | .nil, A, h => h
  | .node p x l r, A, ⟨b, L, R, e, hp, hr, hl, hr2⟩ => ⟨b, L, R, e, hp, hr.keep hb, NodeAt.keep hb hl, NodeAt.keep hb hr2⟩
theorem NodeAt.facts {w : World} {p : Nat} {x : It} {l r : ITr} {A : Option Addr} (h : NodeAt w (.node p x l r) A) : ∃ b L R, A = some ⟨b, 0, none⟩ ∧ NodeAt w l L ∧ NodeAt w r R ∧ p < 18446744073709551616 ∧ RowV w b 58 (ndC p x L R (Tr.len (.node p x l r)) (Tr.total It.z (.node p x l r))) ∧
    w.cell? ⟨b, 0, none⟩ = some (.int .u64 (p : Int)) ∧ w.cell? ⟨b, 1, none⟩ = some (.string x.k) ∧ w.cell? ⟨b, 6, none⟩ = some (.pointer L) ∧ w.cell? ⟨b, 7, none⟩ = some (.pointer R) := by
  obtain ⟨b, L, R, e, hp, hr, hl, hr2⟩ := h
  exact ⟨b, L, R, e, hl, hr2, hp, hr, hr.cell rfl, hr.cell rfl, hr.cell rfl, hr.cell rfl⟩
structure TrOk (t : ITr) : Prop where
  len : Tr.len t ≤ 1000
  z : ∀ x ∈ Tr.toL t, 0 ≤ x.z ∧ x.z ≤ 1099511627776
theorem tot_bound : ∀ (t : ITr), (∀ x ∈ Tr.toL t, 0 ≤ x.z ∧ x.z ≤ 1099511627776) → 0 ≤ Tr.total It.z t ∧ Tr.total It.z t ≤ (Tr.len t : Int) * 1099511627776
  | .nil, _ => by simp [Tr.total, Tr.len]
  | .node p x l r, h => by
    have h1 := tot_bound l (fun y hy => h y (by simp [Tr.toL, hy]))
    have h2 := tot_bound r (fun y hy => h y (by simp [Tr.toL, hy]))
    have h3 := h x (by simp [Tr.toL])
    simp only [Tr.total, Tr.len]
    omega
theorem TrOk.bound {t : ITr} (h : TrOk t) : Tr.len t ≤ 1000 ∧ 0 ≤ Tr.total It.z t ∧ Tr.total It.z t ≤ 1099511627776000 := by
  have := tot_bound t h.z
  have := h.len
  omega
theorem TrOk.left {p : Nat} {x : It} {l r : ITr} (h : TrOk (.node p x l r)) : TrOk l := ⟨by have := h.len; simp only [Tr.len] at this; omega, fun y hy => h.z y (by simp [Tr.toL, hy])⟩
theorem TrOk.right {p : Nat} {x : It} {l r : ITr} (h : TrOk (.node p x l r)) : TrOk r := ⟨by have := h.len; simp only [Tr.len] at this; omega, fun y hy => h.z y (by simp [Tr.toL, hy])⟩
theorem TrOk.item {p : Nat} {x : It} {l r : ITr} (h : TrOk (.node p x l r)) : 0 ≤ x.z ∧ x.z ≤ 1099511627776 := h.z x (by simp [Tr.toL])
theorem TrOk.nil : TrOk .nil := ⟨by simp [Tr.len], fun x h => by cases h⟩
end Go.Proofs.YtcjeddichookmaaGreatDoor
namespace Go.Proofs.YtcjeddichookmaaGreatDoor
open Go.RowKit Go.Sort
set_option linter.unusedVariables false
set_option linter.unusedSimpArgs false
set_option maxRecDepth 100000
theorem len_any (t : ITr) (A : Option Addr) (w : World) (h : NodeAt w t A) : Calls Tryz.prog 22 #[.pointer A] w (fun e w' => e = .returned (.int .i64 (Tr.len t : Nat)) ∧ w' = w) := by
  cases t with
  | nil =>
    cases (show A = none from h)
    go_enter Tryz.func22, Tryz.ntmps22
    go_wp2
    go_ret
    exact ⟨rfl, rfl⟩
  | node p x l r =>
    obtain ⟨b, L, R, rfl, hp, hr, hl, hr2⟩ := h
    have c8 := hr.cell (k := 8) rfl
    clear hr hl hr2 hp
    generalize Tr.len (.node p x l r) = n at *
    generalize Tr.total It.z (.node p x l r) = s at *
    go_enter Tryz.func22, Tryz.ntmps22
    go_wp2
    go_ret
    exact ⟨rfl, rfl⟩
theorem total_any (t : ITr) (A : Option Addr) (w : World) (h : NodeAt w t A) : Calls Tryz.prog 23 #[.pointer A] w (fun e w' => e = .returned (.int .i64 (Tr.total It.z t)) ∧ w' = w) := by
  cases t with
  | nil =>
    cases (show A = none from h)
    go_enter Tryz.func23, Tryz.ntmps23
    go_wp2
    go_ret
    exact ⟨rfl, rfl⟩
  | node p x l r =>
    obtain ⟨b, L, R, rfl, hp, hr, hl, hr2⟩ := h
    have c9 := hr.cell (k := 9) rfl
    clear hr hl hr2 hp
    generalize Tr.len (.node p x l r) = n at *
    generalize Tr.total It.z (.node p x l r) = s at *
    go_enter Tryz.func23, Tryz.ntmps23
    go_wp2
    go_ret
    exact ⟨rfl, rfl⟩
theorem len_ret (t : ITr) (A : Option Addr) (w : World) (h : NodeAt w t A) : Calls Tryz.prog 22 #[.pointer A] w (Ret w (.int .i64 (Tr.len t : Nat))) := (len_any t A w h).mono (by rintro e w' ⟨rfl, rfl⟩; exact ⟨rfl, Below.refl _ _⟩)
theorem total_ret (t : ITr) (A : Option Addr) (w : World) (h : NodeAt w t A) : Calls Tryz.prog 23 #[.pointer A] w (Ret w (.int .i64 (Tr.total It.z t))) := (total_any t A w h).mono (by rintro e w' ⟨rfl, rfl⟩; exact ⟨rfl, Below.refl _ _⟩)
theorem own_any (p : Nat) (x : It) (l r : ITr) (A : Option Addr) (w : World) (h : NodeAt w (.node p x l r) A) (ho : TrOk (.node p x l r)) : Calls Tryz.prog 50 #[.pointer A] w (Ret w (.int .i64 x.z)) := by
  obtain ⟨b, L, R, rfl, hl, hr2, hp, hr, c0, c1, c6, c7⟩ := h.facts
  have c9 := hr.cell (k := 9) rfl
  have k1 := fun W (hb : Below w.heap.size w W) => total_ret l L W (NodeAt.keep hb hl)
  have k2 := fun W (hb : Below w.heap.size w W) => total_ret r R W (NodeAt.keep hb hr2)
  have hz := ho.item
  have b1 := ho.left.bound
  have b2 := ho.right.bound
  have ht : Tr.total It.z (.node p x l r) = x.z + Tr.total It.z l + Tr.total It.z r := rfl
  have K1 := Lib.hid k1; have K2 := Lib.hid k2
  clear k1 k2 hl hr2 hp hr h ho c0 c1
  generalize Tr.total It.z (.node p x l r) = s at *
  generalize Tr.total It.z l = s1 at *
  generalize Tr.total It.z r = s2 at *
  have e1 : wrap64 (s - s1) = s - s1 := IntWalk.wrap64_in _ (by omega)
  have e2 : wrap64 (s - s1 - s2) = x.z := by rw [IntWalk.wrap64_in _ (by omega)]; omega
  have e3 : wrap64 x.z = x.z := IntWalk.wrap64_in _ (by omega)
  have r6 := cell_regrown c6; have r7 := cell_regrown c7; have r9 := cell_regrown c9
  go_enter Tryz.func50, Tryz.ntmps50
  go_wp2_with fail
  refine wp_region_quiet_below (by kernel_rfl) (by kernel_rfl) ?_; (repeat (any_goals (first | go_big_quiet_step ((first | first | (with_reducible exact qcalls2 K1.out _ _) | (with_reducible exact qcalls2 K2.out _ _))) | quiet_step ((first | first | (with_reducible exact qcalls2 K1.out _ _) | (with_reducible exact qcalls2 K2.out _ _)))))); refine wpQuiet_nil ?_; intro _ hwq; obtain ⟨⟨dq, osq⟩, hwq⟩ := hwq; subst hwq; have hbq := below_regrown (w) dq osq; generalize grow (redrawn (w) dq) osq = wq at *
  go_wp2
  go_ret
  exact ⟨ret_int (by omega), belB⟩
end Go.Proofs.YtcjeddichookmaaGreatDoor
namespace Go.Proofs.YtcjeddichookmaaGreatDoor
open Go.RowKit Go.Sort
set_option linter.unusedVariables false
set_option linter.unusedSimpArgs false
set_option maxRecDepth 100000
def preN (n : Nat) (S : List Nat) (t : Nat) : List Nat := S.take t ++ List.replicate (n - t) 0
section
variable {n : Nat} {S : List Nat}
theorem preN_succ (hS : S.length = n) {t : Nat} (ht : t < n) : (preN n S t).set t (S.getD t 0) = preN n S (t + 1) := by
  unfold preN
  have hl : (S.take t).length = t := by rw [List.length_take]; omega
  rw [List.set_append_right _ _ (by omega), hl, Nat.sub_self, show n - t = (n - (t + 1)) + 1 by omega, List.replicate_succ, List.set_cons_zero, List.take_add_one, List.getElem?_eq_getElem (by omega)]
  rw [List.getD_eq_getElem?_getD, List.getElem?_eq_getElem (by omega)]
  rw [List.append_assoc]; rfl
theorem preN_len (hS : S.length = n) {t : Nat} (ht : t ≤ n) : (preN n S t).length = n := by unfold preN; simp [hS]; omega
theorem preN_all (hS : S.length = n) : preN n S n = S := by unfold preN; rw [List.take_of_length_le (by omega)]; simp
end
theorem b8_set (L : List Nat) (k v : Nat) : b8 (L.set k v) = (b8 L).set k (.int .u8 (v : Int)) := by simp [b8, List.map_set]
theorem out_at (s : Sha.St) {q r : Nat} (hq : q < 8) (hr : r < 4) : (Sha.out s).getD (4 * q + r) 0 = (Sha.bytes4 ((stL s).getD q 0)).getD r 0 := by
  have h1 : q = 0 ∨ q = 1 ∨ q = 2 ∨ q = 3 ∨ q = 4 ∨ q = 5 ∨ q = 6 ∨ q = 7 := by omega
  have h2 : r = 0 ∨ r = 1 ∨ r = 2 ∨ r = 3 := by omega
  rcases h1 with rfl | rfl | rfl | rfl | rfl | rfl | rfl | rfl <;> rcases h2 with rfl | rfl | rfl | rfl <;> rfl
theorem stL_lt {s : Sha.St} (h : Sha.Ok s) (q : Nat) : (stL s).getD q 0 < 4294967296 := by
  obtain ⟨h0, h1, h2, h3, h4, h5, h6, h7⟩ := h
  unfold stL
  match q with
  | 0 => exact h0
  | 1 => exact h1
  | 2 => exact h2
  | 3 => exact h3
  | 4 => exact h4
  | 5 => exact h5
  | 6 => exact h6
  | 7 => exact h7
  | _ + 8 => exact (by decide : 0 < 4294967296)
theorem bytes8_len (x : Nat) : (Sha.bytes8 x).length = 8 := rfl
theorem own_one (w : World) (base x : Nat) (hb : base ≤ w.heap.size) : (w.alloc (.cells #[.int .u8 (x : Int)] 5)).ownsRow base 5 1 (.slice (some ⟨w.heap.size, 0, none⟩) 1 1) 1 (b8 [x]) :=
  ⟨rfl, .inr ⟨w.heap.size, 1, #[.int .u8 (x : Int)], rfl, hb, heap_alloc_new w _, Nat.le_refl _, by decide, rfl, rfl⟩⟩
theorem own_next {w : World} {base n j k : Nat} {v : Value} {P S : List Nat} {x : Int} (h : w.ownsRow base 5 1 v k (b8 (P ++ S.take j) ++ [.int .u8 x])) (hk : k = n + (j + 1)) (hx : x = ((S.getD j 0 : Nat) : Int)) (hj : j < S.length) :
    w.ownsRow base 5 1 v (n + (j + 1)) (b8 (P ++ S.take (j + 1))) := by
  rw [hk, hx] at h
  have e : b8 (P ++ S.take (j + 1)) = b8 (P ++ S.take j) ++ [.int .u8 ((S.getD j 0 : Nat) : Int)] := by
    rw [List.take_add_one, List.getElem?_eq_getElem hj, List.getD_eq_getElem?_getD, List.getElem?_eq_getElem hj, ← List.append_assoc, b8_app]; rfl
  rw [e]; exact h
theorem bytes8_lt {x : Nat} (hx : x < 18446744073709551616) : ∀ b ∈ Sha.bytes8 x, b < 256 := by
  intro b hb
  unfold Sha.bytes8 at hb
  rcases List.mem_append.1 hb with hb | hb
  · exact Sha.bytes4_lt (Nat.mod_lt _ (by decide)) b hb
  · exact Sha.bytes4_lt (Nat.mod_lt _ (by decide)) b hb
theorem padT_lt {n : Nat} (hn : n ≤ 100000000000) : ∀ b ∈ Sha.padT n, b < 256 := by
  intro b hb
  unfold Sha.padT at hb
  rcases List.mem_cons.1 hb with hb | hb
  · omega
  · rcases List.mem_append.1 hb with hb | hb
    · have := (List.mem_replicate.1 hb).2; omega
    · exact bytes8_lt (by omega) b hb
theorem grown_row {w w' : World} {base n g : Nat} {v : Value} {e t : TypeId} {xs cs : List Value} (hown : w.ownsRow base e 1 v n xs) (hg : w.grownBy w' v.ownBlock) (hlt : g < base) (h : RowV w g t cs) : RowV w' g t cs :=
  (hg.block g (RowV.lt h) (fun e => by have := ownsRow_block hown g e.symm; omega)).trans h
set_option maxHeartbeats 4000000 in
theorem sum_any (m : List Nat) (v : Value) (w : World) (hv : StrV m v) (hm : m.length ≤ 100000000000) (hK : Ks w) :
    Calls Tryz.prog 58 #[v] w (Ret w (.agg (b8 (Sha.sum m)).toArray)) := by
  obtain ⟨i0, hi, hz0, hz1, hz2⟩ := info_parts infoByte22
  have HI := Lib.hid (And.intro hi (And.intro hz0 (And.intro hz1 hz2)))
  clear hi hz0 hz1 hz2
  obtain ⟨st, blk, rfl, hst, hbk⟩ := hv
  obtain ⟨N, hN⟩ : ∃ N, N = m.length := ⟨_, rfl⟩
  have hN2 : N ≤ 100000000000 := by omega
  have hSV : StrV m (.agg (strLH st blk N).toArray) := ⟨st, blk, by rw [hN], hst, hbk⟩
  obtain ⟨R, hR⟩ : ∃ R, R = Sha.sum m := ⟨_, rfl⟩
  rw [← hN, ← hR]
  obtain ⟨X, hX⟩ : ∃ X, X = (strLH st blk N).toArray := ⟨_, rfl⟩
  rw [← hX] at hSV ⊢
  obtain ⟨p, hp⟩ : ∃ p, p = (119 - N % 64) % 64 := ⟨_, rfl⟩
  have hp2 : p ≤ 63 := by omega
  have hp3 : ∀ i, i ≤ p → ((N + 1 + i) % 64 = 56 ↔ i = p) := by intro i hi; omega
  have hblk := hst.len
  have HK := Lib.hid hK; have HSV := Lib.hid hSV; have HR := Lib.hid hR; have HX := Lib.hid hX; have HP := Lib.hid hp; have HP3 := Lib.hid hp3; have HN := Lib.hid hN; have HBL := Lib.hid hblk
  clear hK hSV hR hX hp hp3 hst hbk hN hblk hm
  go_enter Tryz.func58, Tryz.ntmps58
  go_upto_region 1 with fail
  generalize hw0 : World.alloc _ _ = w0
  have hB : RowV w0 w.heap.size 104 (strLH st blk N) := by rw [← hw0, ← show X.toList = strLH st blk N by rw [HX.out]]; exact (heap_alloc2_old w _ _).trans (by simp)
  have hZ : RowV w0 (w.heap.size + 1) 108 (b8 (preN 32 R 0)) := by rw [← hw0]; exact (heap_alloc2_new w _ _).trans rfl
  have hbw : Below w.heap.size w w0 := by rw [← hw0]; exact belB
  clear hw0
  have hz0 : w.heap.size + 1 < w0.heap.size := RowV.lt hZ
  have c72 : w0.cell? ⟨w.heap.size, 72, none⟩ = some (.int .u64 (N : Int)) := RowV.cell hB (strL_n HBL.out)
  have HB := Lib.hid hB; have HZ := Lib.hid hZ
  clear hB hZ
  go_wp2
  clear c72
  go_loopw [4] (fun pv wr => ∃ (i : Nat) (A : Option Addr) (c : Nat), i ≤ p ∧ pv = .slice A (1 + i) c ∧ wr.ownsRow (w.heap.size + 2) 5 1 (.slice A (1 + i) c) (1 + i) (b8 (128 :: List.replicate i 0)) ∧ Hid (RowV wr w.heap.size 104 (strLH st blk N)) ∧ Hid (RowV wr (w.heap.size + 1) 108 (b8 (preN 32 R 0))) ∧ Below w.heap.size w wr) (fun pv _ => match pv with | .slice _ n _ => 65 - n | _ => 0)
  case atStart =>
    refine ⟨0, some ⟨w0.heap.size, 0, none⟩, 1, by omega, rfl, own_one _ _ 128 (by omega), Lib.hid (RowV.alloc HB.out _), Lib.hid (RowV.alloc HZ.out _), (hbw.alloc (by omega) _)⟩
  case round =>
    obtain ⟨i, A, c, hi, rfl, hown, HBr, HZr, hbr⟩ := hrel
    clear HB HZ hbw
    have hbs : w.heap.size + 1 < wr.heap.size := RowV.lt HZr.out
    have c72 : wr.cell? ⟨w.heap.size, 72, none⟩ = some (.int .u64 (N : Int)) := RowV.cell HBr.out (strL_n HBL.out)
    have h56 := HP3.out i hi
    by_cases h : i = p
    · have hc : ((N : Int) + (1 + p)) % 64 = 56 := by omega
      have hpad : 128 :: List.replicate i 0 = (128 :: List.replicate p 0) ++ (Sha.bytes8 (8 * N)).take 0 := by rw [h]; simp
      have hn1 : 1 + i = 1 + p + 0 := by omega
      rw [hpad, hn1] at hown
      rw [hn1]
      clear hpad hn1 h56 h hi
      go_wp2_with fail
      obtain ⟨wo, rfl⟩ : ∃ wo : World, wo = wr := ⟨_, rfl⟩
      go_loopw [23, 4] (fun jv pv wr => ∃ (j : Nat) (A : Option Addr) (c : Nat), j ≤ 8 ∧ jv = .int .i64 j ∧ pv = .slice A (1 + p + j) c ∧ wr.ownsRow (w.heap.size + 2) 5 1 (.slice A (1 + p + j) c) (1 + p + j) (b8 ((128 :: List.replicate p 0) ++ (Sha.bytes8 (8 * N)).take j)) ∧ Hid (RowV wr w.heap.size 104 (strLH st blk N)) ∧ Hid (RowV wr (w.heap.size + 1) 108 (b8 (preN 32 R 0))) ∧ Below w.heap.size w wr) (fun jv _ _ => 8 - (intOf jv).toNat)
      case atStart => exact ⟨0, A, c, by omega, rfl, rfl, hown, HBr, HZr, hbr⟩
      case round =>
        clear HBr HZr hbr hown c72 hc
        obtain ⟨j, A, c, hj, rfl, rfl, hown, HBr, HZr, hbr⟩ := hrel
        have hbs : w.heap.size + 1 < wr.heap.size := RowV.lt HZr.out
        by_cases h8 : j < 8
        · have hj8 : j = 0 ∨ j = 1 ∨ j = 2 ∨ j = 3 ∨ j = 4 ∨ j = 5 ∨ j = 6 ∨ j = 7 := by omega
          clear h8 hj
          rcases hj8 with rfl | rfl | rfl | rfl | rfl | rfl | rfl | rfl
          · go_wp2_with (at_builtin; refine wpList_append_own _ rfl _ _ 79 rfl (w.heap.size + 2) 5 i0 (.int .u8 0) 1 1 Tryz.underlying79 HI.out.1 HI.out.2.1 HI.out.2.2.1 HI.out.2.2.2 rfl (by decide) _ _ _ rfl (hown.alloc _) ⟨wr.heap.size, 0, none⟩ 1 1 [_] rfl rfl (cell_one_new _ _ _) (by simp [Value.oneCell']) (by unfold maxLen; omega) (by omega) (by simp; omega) ?_; intro v' w3 hown1 hgrow1 _; obtain ⟨g1, cap1, rfl⟩ := ownsRow_succ hown1; have hb3 : Below w.heap.size w w3 := (hbr.alloc (by omega) _).grown hgrow1 (by simp; omega) (fun r e => by have := ownsRow_block hown r e; omega); have HB3 := Lib.hid (grown_row (hown.alloc _) hgrow1 (by omega) (RowV.alloc HBr.out _)); have HZ3 := Lib.hid (grown_row (hown.alloc _) hgrow1 (by omega) (RowV.alloc HZr.out _)); have hbs3 : w.heap.size + 1 < w3.heap.size := RowV.lt HZ3.out; clear hown)
            have hown2 := own_next (n := 1 + p) hown1 (by omega) (by simp [Sha.bytes8, Sha.bytes4] <;> omega) (by rw [bytes8_len]; omega)
            refine ⟨?_, by simp [intOf]⟩
            repeat apply Exists.intro
            exact ⟨⟨1, some ⟨g1, 0, none⟩, cap1, by omega, rfl, rfl, hown2, HB3, HZ3, hb3⟩, rfl⟩
          · go_wp2_with (at_builtin; refine wpList_append_own _ rfl _ _ 79 rfl (w.heap.size + 2) 5 i0 (.int .u8 0) 1 1 Tryz.underlying79 HI.out.1 HI.out.2.1 HI.out.2.2.1 HI.out.2.2.2 rfl (by decide) _ _ _ rfl (hown.alloc _) ⟨wr.heap.size, 0, none⟩ 1 1 [_] rfl rfl (cell_one_new _ _ _) (by simp [Value.oneCell']) (by unfold maxLen; omega) (by omega) (by simp; omega) ?_; intro v' w3 hown1 hgrow1 _; obtain ⟨g1, cap1, rfl⟩ := ownsRow_succ hown1; have hb3 : Below w.heap.size w w3 := (hbr.alloc (by omega) _).grown hgrow1 (by simp; omega) (fun r e => by have := ownsRow_block hown r e; omega); have HB3 := Lib.hid (grown_row (hown.alloc _) hgrow1 (by omega) (RowV.alloc HBr.out _)); have HZ3 := Lib.hid (grown_row (hown.alloc _) hgrow1 (by omega) (RowV.alloc HZr.out _)); have hbs3 : w.heap.size + 1 < w3.heap.size := RowV.lt HZ3.out; clear hown)
            have hown2 := own_next (n := 1 + p) hown1 (by omega) (by simp [Sha.bytes8, Sha.bytes4] <;> omega) (by rw [bytes8_len]; omega)
            refine ⟨?_, by simp [intOf]⟩
            repeat apply Exists.intro
            exact ⟨⟨2, some ⟨g1, 0, none⟩, cap1, by omega, rfl, rfl, hown2, HB3, HZ3, hb3⟩, rfl⟩
          · go_wp2_with (at_builtin; refine wpList_append_own _ rfl _ _ 79 rfl (w.heap.size + 2) 5 i0 (.int .u8 0) 1 1 Tryz.underlying79 HI.out.1 HI.out.2.1 HI.out.2.2.1 HI.out.2.2.2 rfl (by decide) _ _ _ rfl (hown.alloc _) ⟨wr.heap.size, 0, none⟩ 1 1 [_] rfl rfl (cell_one_new _ _ _) (by simp [Value.oneCell']) (by unfold maxLen; omega) (by omega) (by simp; omega) ?_; intro v' w3 hown1 hgrow1 _; obtain ⟨g1, cap1, rfl⟩ := ownsRow_succ hown1; have hb3 : Below w.heap.size w w3 := (hbr.alloc (by omega) _).grown hgrow1 (by simp; omega) (fun r e => by have := ownsRow_block hown r e; omega); have HB3 := Lib.hid (grown_row (hown.alloc _) hgrow1 (by omega) (RowV.alloc HBr.out _)); have HZ3 := Lib.hid (grown_row (hown.alloc _) hgrow1 (by omega) (RowV.alloc HZr.out _)); have hbs3 : w.heap.size + 1 < w3.heap.size := RowV.lt HZ3.out; clear hown)
            have hown2 := own_next (n := 1 + p) hown1 (by omega) (by simp [Sha.bytes8, Sha.bytes4] <;> omega) (by rw [bytes8_len]; omega)
            refine ⟨?_, by simp [intOf]⟩
            repeat apply Exists.intro
            exact ⟨⟨3, some ⟨g1, 0, none⟩, cap1, by omega, rfl, rfl, hown2, HB3, HZ3, hb3⟩, rfl⟩
          · go_wp2_with (at_builtin; refine wpList_append_own _ rfl _ _ 79 rfl (w.heap.size + 2) 5 i0 (.int .u8 0) 1 1 Tryz.underlying79 HI.out.1 HI.out.2.1 HI.out.2.2.1 HI.out.2.2.2 rfl (by decide) _ _ _ rfl (hown.alloc _) ⟨wr.heap.size, 0, none⟩ 1 1 [_] rfl rfl (cell_one_new _ _ _) (by simp [Value.oneCell']) (by unfold maxLen; omega) (by omega) (by simp; omega) ?_; intro v' w3 hown1 hgrow1 _; obtain ⟨g1, cap1, rfl⟩ := ownsRow_succ hown1; have hb3 : Below w.heap.size w w3 := (hbr.alloc (by omega) _).grown hgrow1 (by simp; omega) (fun r e => by have := ownsRow_block hown r e; omega); have HB3 := Lib.hid (grown_row (hown.alloc _) hgrow1 (by omega) (RowV.alloc HBr.out _)); have HZ3 := Lib.hid (grown_row (hown.alloc _) hgrow1 (by omega) (RowV.alloc HZr.out _)); have hbs3 : w.heap.size + 1 < w3.heap.size := RowV.lt HZ3.out; clear hown)
            have hown2 := own_next (n := 1 + p) hown1 (by omega) (by simp [Sha.bytes8, Sha.bytes4] <;> omega) (by rw [bytes8_len]; omega)
            refine ⟨?_, by simp [intOf]⟩
            repeat apply Exists.intro
            exact ⟨⟨4, some ⟨g1, 0, none⟩, cap1, by omega, rfl, rfl, hown2, HB3, HZ3, hb3⟩, rfl⟩
          · go_wp2_with (at_builtin; refine wpList_append_own _ rfl _ _ 79 rfl (w.heap.size + 2) 5 i0 (.int .u8 0) 1 1 Tryz.underlying79 HI.out.1 HI.out.2.1 HI.out.2.2.1 HI.out.2.2.2 rfl (by decide) _ _ _ rfl (hown.alloc _) ⟨wr.heap.size, 0, none⟩ 1 1 [_] rfl rfl (cell_one_new _ _ _) (by simp [Value.oneCell']) (by unfold maxLen; omega) (by omega) (by simp; omega) ?_; intro v' w3 hown1 hgrow1 _; obtain ⟨g1, cap1, rfl⟩ := ownsRow_succ hown1; have hb3 : Below w.heap.size w w3 := (hbr.alloc (by omega) _).grown hgrow1 (by simp; omega) (fun r e => by have := ownsRow_block hown r e; omega); have HB3 := Lib.hid (grown_row (hown.alloc _) hgrow1 (by omega) (RowV.alloc HBr.out _)); have HZ3 := Lib.hid (grown_row (hown.alloc _) hgrow1 (by omega) (RowV.alloc HZr.out _)); have hbs3 : w.heap.size + 1 < w3.heap.size := RowV.lt HZ3.out; clear hown)
            have hown2 := own_next (n := 1 + p) hown1 (by omega) (by simp [Sha.bytes8, Sha.bytes4] <;> omega) (by rw [bytes8_len]; omega)
            refine ⟨?_, by simp [intOf]⟩
            repeat apply Exists.intro
            exact ⟨⟨5, some ⟨g1, 0, none⟩, cap1, by omega, rfl, rfl, hown2, HB3, HZ3, hb3⟩, rfl⟩
          · go_wp2_with (at_builtin; refine wpList_append_own _ rfl _ _ 79 rfl (w.heap.size + 2) 5 i0 (.int .u8 0) 1 1 Tryz.underlying79 HI.out.1 HI.out.2.1 HI.out.2.2.1 HI.out.2.2.2 rfl (by decide) _ _ _ rfl (hown.alloc _) ⟨wr.heap.size, 0, none⟩ 1 1 [_] rfl rfl (cell_one_new _ _ _) (by simp [Value.oneCell']) (by unfold maxLen; omega) (by omega) (by simp; omega) ?_; intro v' w3 hown1 hgrow1 _; obtain ⟨g1, cap1, rfl⟩ := ownsRow_succ hown1; have hb3 : Below w.heap.size w w3 := (hbr.alloc (by omega) _).grown hgrow1 (by simp; omega) (fun r e => by have := ownsRow_block hown r e; omega); have HB3 := Lib.hid (grown_row (hown.alloc _) hgrow1 (by omega) (RowV.alloc HBr.out _)); have HZ3 := Lib.hid (grown_row (hown.alloc _) hgrow1 (by omega) (RowV.alloc HZr.out _)); have hbs3 : w.heap.size + 1 < w3.heap.size := RowV.lt HZ3.out; clear hown)
            have hown2 := own_next (n := 1 + p) hown1 (by omega) (by simp [Sha.bytes8, Sha.bytes4] <;> omega) (by rw [bytes8_len]; omega)
            refine ⟨?_, by simp [intOf]⟩
            repeat apply Exists.intro
            exact ⟨⟨6, some ⟨g1, 0, none⟩, cap1, by omega, rfl, rfl, hown2, HB3, HZ3, hb3⟩, rfl⟩
          · go_wp2_with (at_builtin; refine wpList_append_own _ rfl _ _ 79 rfl (w.heap.size + 2) 5 i0 (.int .u8 0) 1 1 Tryz.underlying79 HI.out.1 HI.out.2.1 HI.out.2.2.1 HI.out.2.2.2 rfl (by decide) _ _ _ rfl (hown.alloc _) ⟨wr.heap.size, 0, none⟩ 1 1 [_] rfl rfl (cell_one_new _ _ _) (by simp [Value.oneCell']) (by unfold maxLen; omega) (by omega) (by simp; omega) ?_; intro v' w3 hown1 hgrow1 _; obtain ⟨g1, cap1, rfl⟩ := ownsRow_succ hown1; have hb3 : Below w.heap.size w w3 := (hbr.alloc (by omega) _).grown hgrow1 (by simp; omega) (fun r e => by have := ownsRow_block hown r e; omega); have HB3 := Lib.hid (grown_row (hown.alloc _) hgrow1 (by omega) (RowV.alloc HBr.out _)); have HZ3 := Lib.hid (grown_row (hown.alloc _) hgrow1 (by omega) (RowV.alloc HZr.out _)); have hbs3 : w.heap.size + 1 < w3.heap.size := RowV.lt HZ3.out; clear hown)
            have hown2 := own_next (n := 1 + p) hown1 (by omega) (by simp [Sha.bytes8, Sha.bytes4] <;> omega) (by rw [bytes8_len]; omega)
            refine ⟨?_, by simp [intOf]⟩
            repeat apply Exists.intro
            exact ⟨⟨7, some ⟨g1, 0, none⟩, cap1, by omega, rfl, rfl, hown2, HB3, HZ3, hb3⟩, rfl⟩
          · go_wp2_with (at_builtin; refine wpList_append_own _ rfl _ _ 79 rfl (w.heap.size + 2) 5 i0 (.int .u8 0) 1 1 Tryz.underlying79 HI.out.1 HI.out.2.1 HI.out.2.2.1 HI.out.2.2.2 rfl (by decide) _ _ _ rfl (hown.alloc _) ⟨wr.heap.size, 0, none⟩ 1 1 [_] rfl rfl (cell_one_new _ _ _) (by simp [Value.oneCell']) (by unfold maxLen; omega) (by omega) (by simp; omega) ?_; intro v' w3 hown1 hgrow1 _; obtain ⟨g1, cap1, rfl⟩ := ownsRow_succ hown1; have hb3 : Below w.heap.size w w3 := (hbr.alloc (by omega) _).grown hgrow1 (by simp; omega) (fun r e => by have := ownsRow_block hown r e; omega); have HB3 := Lib.hid (grown_row (hown.alloc _) hgrow1 (by omega) (RowV.alloc HBr.out _)); have HZ3 := Lib.hid (grown_row (hown.alloc _) hgrow1 (by omega) (RowV.alloc HZr.out _)); have hbs3 : w.heap.size + 1 < w3.heap.size := RowV.lt HZ3.out; clear hown)
            have hown2 := own_next (n := 1 + p) hown1 (by omega) (by simp [Sha.bytes8, Sha.bytes4] <;> omega) (by rw [bytes8_len]; omega)
            refine ⟨?_, by simp [intOf]⟩
            repeat apply Exists.intro
            exact ⟨⟨8, some ⟨g1, 0, none⟩, cap1, by omega, rfl, rfl, hown2, HB3, HZ3, hb3⟩, rfl⟩
        · have hj8 : j = 8 := by omega
          have hpt : (128 :: List.replicate p 0) ++ (Sha.bytes8 (8 * N)).take j = Sha.padT N := by rw [hj8, HP.out]; rfl
          rw [hpt] at hown
          have hpl : (Sha.padT N).length = 1 + p + j := by rw [Sha.padT_len, HP.out, hj8]; omega
          have hcv := run_text wr A (1 + p + j) c (Sha.padT N) hpl (padT_lt hN2) (by omega) (reads_own hown)
          have hpz : (toN (Sha.padT N)).size ≤ 200 := by rw [toN_size, hpl]; omega
          have hadd := add_any m (.agg X) (toN (Sha.padT N)) wr HSV.out (by have := HN.out; omega) (HK.out.keep hbr)
          rw [nb_toN (padT_lt hN2), show m ++ Sha.padT N = Sha.pad m by rw [Sha.pad_eq, HN.out]] at hadd
          have hBX : wr.heap[w.heap.size]? = some (.cells X 104 (0, 0)) := by rw [HX.out]; exact HBr.out
          have hiX : (Tryz.prog.info? 104).map (·.size) = some X.size := by rw [HX.out, List.size_toArray, strLH_len HBL.out]; kernel_rfl
          have HADD := Lib.hid hadd; have HBX := Lib.hid hBX; have HIX := Lib.hid hiX
          generalize toN (Sha.padT N) = T at *
          clear hadd hBX hiX hpt hpl hown hj8 HSV
          go_upto_region 11 with (first | (refine wpList_load_row rfl _ _ rfl w.heap.size rfl _ X (0, 0) _ HBX.out Tryz.underlying104 rfl HIX.out ?_) | (go_at_call 56; refine HADD.out.mono ?_; rintro e w5 ⟨⟨v5, rfl, hv5⟩, hb5⟩; obtain ⟨st5, blk5, rfl, hst5, hbk5⟩ := hv5; have hi5 : (Tryz.prog.info? 104).map (·.size) = some (strLH st5 blk5 (Sha.pad m).length).toArray.size := (by rw [List.size_toArray, strLH_len hst5.len]; kernel_rfl)) | (refine wpList_store_row rfl _ _ _ rfl w.heap.size (strLH st5 blk5 (Sha.pad m).length).toArray rfl rfl _ _ (RowV.keep HBr.out hb5) hi5 (by rw [List.size_toArray, List.size_toArray, strLH_len hst5.len, strLH_len HBL.out]) (by rw [List.all_toArray, List.all_eq_true]; exact strL_one) ?_))
          try simp only [Act.put, List.setIfInBounds_toArray, List.set_cons_succ, List.set_cons_zero]
          have hs5 := hb5.size
          obtain ⟨w6, hw6⟩ : ∃ y : World, y = w5.setRow w.heap.size (strLH st5 blk5 (Sha.pad m).length).toArray := ⟨_, rfl⟩
          rw [← hw6]
          have hB6 : RowV w6 w.heap.size 104 (strLH st5 blk5 (Sha.pad m).length) := by rw [hw6]; exact RowV.row (RowV.keep HBr.out hb5) _
          have hZ6 : RowV w6 (w.heap.size + 1) 108 (b8 (preN 32 R 0)) := by rw [hw6]; exact RowV.row_far (RowV.keep HZr.out hb5) _ _ (by omega)
          have hbw6 : Below w.heap.size w w6 := by rw [hw6]; exact below_setRow (hbr.trans (hb5.mono (by omega))) (Nat.le_refl _) _
          have hRo : R = Sha.out st5 := by rw [HR.out]; exact hst5.sum.symm
          have hok5 := hst5.ok
          have hRl : R.length = 32 := by rw [hRo]; rfl
          have hout : ∀ i, i < 32 → R.getD i 0 = (Sha.bytes4 ((stL st5).getD (i / 4) 0)).getD (i % 4) 0 := fun i hi => by
            have := out_at st5 (q := i / 4) (r := i % 4) (by omega) (by omega)
            rw [show 4 * (i / 4) + i % 4 = i by omega] at this
            rw [hRo]; exact this
          have hlt := stL_lt hok5
          have HB6 := Lib.hid hB6; have HZ6 := Lib.hid hZ6; have HOUT := Lib.hid hout; have HRL := Lib.hid hRl; have HLT := Lib.hid hlt; have HBL5 := Lib.hid hst5.len
          clear hw6 hB6 hZ6 hRo hok5 hRl hout hlt hst5 hbk5 hi5 hb5 hs5 HBr HZr hbr HBX HIX HADD hcv HK HR HX
          generalize (Sha.pad m).length = L5 at *
          obtain ⟨go, hgo⟩ : ∃ go, go = w6.heap.size := ⟨_, rfl⟩
          have hgo2 : w.heap.size + 1 < go := by rw [hgo]; exact RowV.lt HZ6.out
          go_wp2_with fail
          rw [← hgo]
          have HGO := Lib.hid hgo
          clear hgo
          go_loopw [40] (fun iv wr => ∃ i : Nat, i ≤ 32 ∧ iv = .int .i64 i ∧ Hid (RowV wr go 108 (b8 (preN 32 R i))) ∧ Hid (RowV wr w.heap.size 104 (strLH st5 blk5 L5)) ∧ Hid (RowV wr (w.heap.size + 1) 108 (b8 (preN 32 R 0))) ∧ Below w.heap.size w wr) (fun iv _ => 32 - (intOf iv).toNat)
          case atStart =>
            refine ⟨0, by omega, rfl, Lib.hid ?_, Lib.hid (RowV.alloc HB6.out _), Lib.hid (RowV.alloc HZ6.out _), hbw6.alloc (by have := HGO.out; omega) _⟩
            rw [HGO.out]; exact (heap_alloc_new w6 _).trans rfl
          case round =>
            obtain ⟨i, hi, rfl, HOr, HBr, HZr, hbr⟩ := hrel
            clear HB6 HZ6 hbw6
            have hgl : go < wr.heap.size := RowV.lt HOr.out
            by_cases hi32 : i < 32
            · have cst : wr.cell? ⟨w.heap.size, i / 4, none⟩ = some (.int .u32 ((stL st5).getD (i / 4) 0 : Nat)) := RowV.cell HBr.out (strL_st (w32_at _ (by show i / 4 < 8; omega)))
              have cou : wr.cell? ⟨go, i, none⟩ = some (.int .u8 ((preN 32 R i).getD i 0 : Nat)) := RowV.cell HOr.out (b8_at _ (by rw [preN_len HRL.out hi]; exact hi32))
              have fou : wr.frozen? ⟨go, i, none⟩ = false := RowV.free HOr.out i
              have hq0 : (0 : Int) ≤ (i : Int) / 4 := by omega
              have hq8 : (i : Int) / 4 < 8 := by omega
              have hlt5 := HLT.out (i / 4)
              generalize hy : (stL st5).getD (i / 4) 0 = y at *
              have hr4 : i % 4 = 0 ∨ i % 4 = 1 ∨ i % 4 = 2 ∨ i % 4 = 3 := by omega
              have HY := Lib.hid hy
              clear hy
              rcases hr4 with h4 | h4 | h4 | h4
              · have hr : (i : Int) % 4 = 0 := by omega
                have hval : R.getD i 0 = y / 16777216 := by rw [HOUT.out i hi32, h4, HY.out]; rfl
                go_wp2_with fail
                have hcast : (y : Int) / 16777216 = ((R.getD i 0 : Nat) : Int) := by rw [hval]; simp
                rw [hcast]
                refine ⟨⟨i + 1, by omega, by go_num, Lib.hid ?_, Lib.hid (RowV.far HBr.out _ _ (by simp; omega)), Lib.hid (RowV.far HZr.out _ _ (by simp; omega)), hbr.setCell (p := ⟨go, i, none⟩) (by show w.heap.size ≤ go; omega) _⟩, by simp [intOf]; omega⟩
                have := RowV.set_ HOr.out i (.int .u8 ((R.getD i 0 : Nat) : Int))
                rw [← b8_set, preN_succ HRL.out hi32] at this
                exact this
              · have hr : (i : Int) % 4 = 1 := by omega
                have hval : R.getD i 0 = y / 65536 % 256 := by rw [HOUT.out i hi32, h4, HY.out]; rfl
                go_wp2_with fail
                have hcast : (y : Int) / 65536 % 256 = ((R.getD i 0 : Nat) : Int) := by rw [hval]; simp
                rw [hcast]
                refine ⟨⟨i + 1, by omega, by go_num, Lib.hid ?_, Lib.hid (RowV.far HBr.out _ _ (by simp; omega)), Lib.hid (RowV.far HZr.out _ _ (by simp; omega)), hbr.setCell (p := ⟨go, i, none⟩) (by show w.heap.size ≤ go; omega) _⟩, by simp [intOf]; omega⟩
                have := RowV.set_ HOr.out i (.int .u8 ((R.getD i 0 : Nat) : Int))
                rw [← b8_set, preN_succ HRL.out hi32] at this
                exact this
              · have hr : (i : Int) % 4 = 2 := by omega
                have hval : R.getD i 0 = y / 256 % 256 := by rw [HOUT.out i hi32, h4, HY.out]; rfl
                go_wp2_with fail
                have hcast : (y : Int) / 256 % 256 = ((R.getD i 0 : Nat) : Int) := by rw [hval]; simp
                rw [hcast]
                refine ⟨⟨i + 1, by omega, by go_num, Lib.hid ?_, Lib.hid (RowV.far HBr.out _ _ (by simp; omega)), Lib.hid (RowV.far HZr.out _ _ (by simp; omega)), hbr.setCell (p := ⟨go, i, none⟩) (by show w.heap.size ≤ go; omega) _⟩, by simp [intOf]; omega⟩
                have := RowV.set_ HOr.out i (.int .u8 ((R.getD i 0 : Nat) : Int))
                rw [← b8_set, preN_succ HRL.out hi32] at this
                exact this
              · have hr : (i : Int) % 4 = 3 := by omega
                have hval : R.getD i 0 = y % 256 := by rw [HOUT.out i hi32, h4, HY.out]; rfl
                go_wp2_with fail
                have hcast : (y : Int) % 256 = ((R.getD i 0 : Nat) : Int) := by rw [hval]; simp
                rw [hcast]
                refine ⟨⟨i + 1, by omega, by go_num, Lib.hid ?_, Lib.hid (RowV.far HBr.out _ _ (by simp; omega)), Lib.hid (RowV.far HZr.out _ _ (by simp; omega)), hbr.setCell (p := ⟨go, i, none⟩) (by show w.heap.size ≤ go; omega) _⟩, by simp [intOf]; omega⟩
                have := RowV.set_ HOr.out i (.int .u8 ((R.getD i 0 : Nat) : Int))
                rw [← b8_set, preN_succ HRL.out hi32] at this
                exact this
            · have h32 : i = 32 := by omega
              have hO : wr.heap[go]? = some (.cells (b8 R).toArray 108 (0, 0)) := by have := HOr.out; rw [h32, preN_all HRL.out] at this; exact this
              have hi8 : (Tryz.prog.info? 108).map (·.size) = some (b8 R).toArray.size := by rw [List.size_toArray, b8_len, HRL.out]; kernel_rfl
              have hz8 : (b8 (preN 32 R 0)).toArray.size = (b8 R).toArray.size := by rw [List.size_toArray, List.size_toArray, b8_len, b8_len, HRL.out, preN_len HRL.out (by omega)]
              have h1 : (b8 R).toArray.all (·.oneCell') = true := by rw [List.all_toArray, List.all_eq_true]; exact b8_one R
              have HO := Lib.hid hO; have HI8 := Lib.hid hi8; have HZ8 := Lib.hid hz8; have H18 := Lib.hid h1
              clear hO hi8 hz8 h1 h32 HOr hi
              generalize (b8 R).toArray = Y at *
              go_wp2_with (first | (refine wpList_load_row rfl _ _ rfl go rfl _ Y (0, 0) _ HO.out Tryz.underlying108 rfl HI8.out ?_) | (refine wpList_store_row rfl _ _ _ rfl (w.heap.size + 1) Y rfl rfl _ _ HZr.out HI8.out HZ8.out H18.out ?_))
              refine bodyPost_ret (v := .agg Y) ?_ rfl ⟨rfl, ?_⟩
              · exact results_cell_row rfl _ _ (w.heap.size + 1) _ _ (0, 0) _ rfl (setRow_heap _ _ _ _ _ _ HZr.out) Tryz.underlying108 rfl HI8.out
              · exact below_setRow hbr (by omega) _
    · have hc : ¬ ((N : Int) + (1 + i)) % 64 = 56 := by omega
      go_wp2_with (at_builtin; refine wpList_append_own _ rfl _ _ 79 rfl (w.heap.size + 2) 5 i0 (.int .u8 0) 1 1 Tryz.underlying79 HI.out.1 HI.out.2.1 HI.out.2.2.1 HI.out.2.2.2 rfl (by decide) _ _ _ rfl (hown.alloc _) ⟨wr.heap.size, 0, none⟩ 1 1 [.int .u8 0] rfl rfl (cell_one_new _ _ _) (by simp [Value.oneCell']) (by unfold maxLen; omega) (by omega) (by simp; omega) ?_; intro v' w3 hown1 hgrow1 _; obtain ⟨g1, cap1, rfl⟩ := ownsRow_succ hown1; have hb3 : Below w.heap.size w w3 := (hbr.alloc (by omega) _).grown hgrow1 (by simp; omega) (fun r e => by have := ownsRow_block hown r e; omega); have HB3 := Lib.hid (grown_row (hown.alloc _) hgrow1 (by omega) (RowV.alloc HBr.out _)); have HZ3 := Lib.hid (grown_row (hown.alloc _) hgrow1 (by omega) (RowV.alloc HZr.out _)); have hbs3 : w.heap.size + 1 < w3.heap.size := RowV.lt HZ3.out; clear hown)
      refine ⟨⟨i + 1, some ⟨g1, 0, none⟩, cap1, by omega, by rw [Nat.add_assoc], ?_, HB3, HZ3, hb3⟩, ?_⟩
      · rw [← Nat.add_assoc, List.replicate_succ', ← List.cons_append, b8_app]; exact hown1
      · show 65 - (1 + i + 1) < 65 - (1 + i)
        omega
end Go.Proofs.YtcjeddichookmaaGreatDoor
