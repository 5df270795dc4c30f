/- Plain: trees whose nodes have keys and priorities: what splitting, joining, finding and leaving out are to the list of their items. -/
namespace Go.Proofs.YtcjeddichookmaaGreatDoor.Tr
set_option linter.unusedVariables false
inductive Tree (α : Type) where
  | nil : Tree α
  | node (p : Nat) (x : α) (l r : Tree α) : Tree α
variable {α : Type}
def toL : Tree α → List α
  | .nil => []
  | .node _ x l r => toL l ++ x :: toL r
def join : Tree α → Tree α → Tree α
  | .nil, b => b
  | a, .nil => a
  | .node p x l r, .node q y m s => if q ≤ p then .node p x l (join r (.node q y m s)) else .node q y (join (.node p x l r) m) s
termination_by a b => (sizeOf a, sizeOf b)
theorem toL_join : ∀ (a b : Tree α), toL (join a b) = toL a ++ toL b
  | .nil, b => by rw [join]; rfl
  | .node p x l r, .nil => by rw [join]; simp [toL]; simp
  | .node p x l r, .node q y m s => by
    rw [join]
    split
    · simp only [toL]; rw [toL_join r (.node q y m s)]; simp [toL]
    · simp only [toL]; rw [toL_join (.node p x l r) m]; simp [toL]
termination_by a b => (sizeOf a, sizeOf b)
variable {κ : Type} {key : α → κ} {lk : κ → κ → Bool}
structure Ord (key : α → κ) (lk : κ → κ → Bool) : Prop where
  irr : ∀ a, lk a a = false
  tr : ∀ a b c, lk a b = true → lk b c = true → lk a c = true
  tot : ∀ a b, lk a b = true ∨ a = b ∨ lk b a = true
def Up (key : α → κ) (lk : κ → κ → Bool) (l : List α) : Prop := l.Pairwise fun a b => lk (key a) (key b) = true
def split (key : α → κ) (lk : κ → κ → Bool) (k : κ) : Tree α → Tree α × Tree α
  | .nil => (.nil, .nil)
  | .node p x l r => if lk (key x) k then (.node p x l (split key lk k r).1, (split key lk k r).2) else ((split key lk k l).1, .node p x (split key lk k l).2 r)
theorem up_app {a b : List α} {x : α} (h : Up key lk (a ++ x :: b)) : Up key lk a ∧ Up key lk b ∧ (∀ y ∈ a, lk (key y) (key x) = true) ∧ (∀ y ∈ b, lk (key x) (key y) = true) ∧ ∀ y ∈ a, ∀ z ∈ b, lk (key y) (key z) = true := by
  unfold Up at *
  rw [List.pairwise_append, List.pairwise_cons] at h
  exact ⟨h.1, h.2.1.2, fun y hy => h.2.2 y hy x (by simp), h.2.1.1, fun y hy z hz => h.2.2 y hy z (by simp [hz])⟩
theorem filter_all {p : α → Bool} : ∀ (l : List α), (∀ x ∈ l, p x = true) → l.filter p = l
  | [], _ => rfl
  | x :: l, h => by rw [List.filter_cons, h x (by simp), if_pos rfl, filter_all l (fun y hy => h y (by simp [hy]))]
theorem filter_no {p : α → Bool} : ∀ (l : List α), (∀ x ∈ l, p x = false) → l.filter p = []
  | [], _ => rfl
  | x :: l, h => by rw [List.filter_cons, h x (by simp), if_neg (by decide), filter_no l (fun y hy => h y (by simp [hy]))]
theorem not_lt_of (o : Ord key lk) {a b : κ} (h : lk a b = true) : lk b a = false := by
  cases h2 : lk b a
  · rfl
  · have := o.tr a b a h h2
    rw [o.irr] at this
    cases this
theorem toL_split (o : Ord key lk) (k : κ) : ∀ (t : Tree α), Up key lk (toL t) → toL (split key lk k t).1 = (toL t).filter (fun x => lk (key x) k) ∧ toL (split key lk k t).2 = (toL t).filter (fun x => !lk (key x) k)
  | .nil, _ => ⟨rfl, rfl⟩
  | .node p x l r, h => by
    obtain ⟨h1, h2, h3, h4, _⟩ := up_app (h : Up key lk (toL l ++ x :: toL r))
    obtain ⟨il1, il2⟩ := toL_split o k l h1
    obtain ⟨ir1, ir2⟩ := toL_split o k r h2
    rw [split]
    cases hx : lk (key x) k
    · have hr : ∀ y ∈ toL r, lk (key y) k = false := fun y hy => by
        cases hy2 : lk (key y) k
        · rfl
        · have := o.tr _ _ _ (h4 y hy) hy2
          rw [hx] at this; cases this
      simp only [Bool.false_eq_true, if_false, toL]
      rw [List.filter_append, List.filter_append, List.filter_cons, List.filter_cons, hx, il1, il2, filter_no (toL r) hr, filter_all (toL r) (p := fun x => !lk (key x) k) (fun y hy => by rw [hr y hy]; rfl)]
      simp
    · have hl : ∀ y ∈ toL l, lk (key y) k = true := fun y hy => o.tr _ _ _ (h3 y hy) hx
      simp only [if_true, toL]
      rw [List.filter_append, List.filter_append, List.filter_cons, List.filter_cons, hx, ir1, ir2, filter_all (toL l) hl, filter_no (toL l) (p := fun x => !lk (key x) k) (fun y hy => by rw [hl y hy]; rfl)]
      simp
def find (key : α → κ) (lk : κ → κ → Bool) [DecidableEq κ] (k : κ) : Tree α → Option α
  | .nil => none
  | .node _ x l r => if key x = k then some x else if lk k (key x) then find key lk k l else find key lk k r
theorem find_eq [DecidableEq κ] (o : Ord key lk) (k : κ) : ∀ (t : Tree α), Up key lk (toL t) → find key lk k t = (toL t).find? fun x => decide (key x = k)
  | .nil, _ => rfl
  | .node p x l r, h => by
    obtain ⟨h1, h2, h3, h4, _⟩ := up_app (h : Up key lk (toL l ++ x :: toL r))
    rw [find]
    have ne : ∀ a b : κ, lk a b = true → a ≠ b := fun a b hab e => by rw [e, o.irr] at hab; cases hab
    show _ = (toL l ++ x :: toL r).find? _
    rw [List.find?_append, List.find?_cons]
    by_cases hx : key x = k
    · rw [if_pos hx]
      have : (toL l).find? (fun x => decide (key x = k)) = none := by
        rw [List.find?_eq_none]
        intro y hy
        have := ne _ _ (h3 y hy)
        rw [hx] at this
        simpa using this
      rw [this]
      simp [hx]
    · rw [if_neg hx, decide_eq_false hx]
      cases hk : lk k (key x)
      · have hkx : lk (key x) k = true := by
          rcases o.tot (key x) k with h | h | h
          · exact h
          · exact absurd h hx
          · rw [hk] at h; cases h
        have : (toL l).find? (fun x => decide (key x = k)) = none := by
          rw [List.find?_eq_none]
          intro y hy
          simpa using ne _ _ (o.tr _ _ _ (h3 y hy) hkx)
        rw [this, if_neg (by decide), find_eq o k r h2]
        rfl
      · have : (toL r).find? (fun x => decide (key x = k)) = none := by
          rw [List.find?_eq_none]
          intro y hy
          simpa using (ne _ _ (o.tr _ _ _ hk (h4 y hy))).symm
        dsimp only
        rw [this, if_pos rfl, find_eq o k l h1]
        cases (toL l).find? (fun x => decide (key x = k)) <;> rfl
def without (key : α → κ) (lk : κ → κ → Bool) (k : κ) : Tree α → Tree α
  | .nil => .nil
  | .node p x l r => if lk k (key x) then .node p x (without key lk k l) r else if lk (key x) k then .node p x l (without key lk k r) else join l r
theorem toL_without [DecidableEq κ] (o : Ord key lk) (k : κ) : ∀ (t : Tree α), Up key lk (toL t) → toL (without key lk k t) = (toL t).filter fun x => decide (key x ≠ k)
  | .nil, _ => rfl
  | .node p x l r, h => by
    obtain ⟨h1, h2, h3, h4, _⟩ := up_app (h : Up key lk (toL l ++ x :: toL r))
    have ne : ∀ a b : κ, lk a b = true → a ≠ b := fun a b hab e => by rw [e, o.irr] at hab; cases hab
    rw [without]
    show _ = (toL l ++ x :: toL r).filter _
    rw [List.filter_append, List.filter_cons]
    cases hk : lk k (key x)
    · cases hx : lk (key x) k
      · have e : key x = k := by
          rcases o.tot (key x) k with h | h | h
          · rw [hx] at h; cases h
          · exact h
          · rw [hk] at h; cases h
        simp only [Bool.false_eq_true, if_false]
        rw [toL_join, filter_all (toL l) (fun y hy => by simpa [← e] using ne _ _ (h3 y hy)), filter_all (toL r) (fun y hy => by simpa [← e] using (ne _ _ (h4 y hy)).symm), if_neg (by simp [e])]
      · simp only [Bool.false_eq_true, if_false, if_true, toL]
        rw [toL_without o k r h2, filter_all (toL l) (fun y hy => by simpa using ne _ _ (o.tr _ _ _ (h3 y hy) hx)), if_pos (by simpa using ne _ _ hx)]
    · simp only [if_true, toL]
      rw [toL_without o k l h1, filter_all (toL r) (fun y hy => by simpa using (ne _ _ (o.tr _ _ _ hk (h4 y hy))).symm), if_pos (by simpa using (ne _ _ hk).symm)]
def len : Tree α → Nat
  | .nil => 0
  | .node _ _ l r => 1 + len l + len r
theorem len_eq : ∀ t : Tree α, len t = (toL t).length
  | .nil => rfl
  | .node p x l r => by rw [len, len_eq l, len_eq r, toL]; simp; omega
def total (sz : α → Int) : Tree α → Int
  | .nil => 0
  | .node _ x l r => sz x + total sz l + total sz r
theorem total_eq (sz : α → Int) : ∀ t : Tree α, total sz t = ((toL t).map sz).foldr (· + ·) 0
  | .nil => rfl
  | .node p x l r => by
    rw [total, total_eq sz l, total_eq sz r, toL, List.map_append, List.map_cons]
    have key : ∀ (a b : List Int), (a ++ b).foldr (· + ·) 0 = a.foldr (· + ·) 0 + b.foldr (· + ·) 0 := by
      intro a b
      induction a with
      | nil => simp
      | cons x a ih => rw [List.cons_append, List.foldr_cons, List.foldr_cons, ih]; omega
    rw [key, List.foldr_cons]
    omega
end Go.Proofs.YtcjeddichookmaaGreatDoor.Tr
