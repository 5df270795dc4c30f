/- Plain: the pairs of a query, by their keys, the last value of each; and what a map that was filled with them reads as. -/
import Derived.Maps.Views
import Derived.Sort.KeysCollected
namespace Go.Proofs.YtocgkpdolgnbgaaGreatDoor
open Go.Maps Go.Sort
set_option linter.unusedVariables false
def insL : List (List UInt8 × List UInt8) → List UInt8 × List UInt8 → List (List UInt8 × List UInt8)
  | [], p => [p]
  | q :: r, p => if p.1 = q.1 then p :: r else if p.1 < q.1 then p :: q :: r else q :: insL r p
def pairsL (qs : List (List UInt8 × List UInt8)) : List (List UInt8 × List UInt8) := qs.foldl insL []
def SortedK (l : List (List UInt8 × List UInt8)) : Prop := l.Pairwise fun a b => a.1 < b.1
theorem lt_tri (a b : List UInt8) (h1 : a ≠ b) (h2 : ¬ a < b) : b < a := by
  rcases Decidable.em (b < a) with h | h
  · exact h
  · exact absurd (List.le_antisymm (List.not_lt.1 h) (List.not_lt.1 h2)) h1
theorem mem_insL (p : List UInt8 × List UInt8) : ∀ (l : List (List UInt8 × List UInt8)), SortedK l → ∀ x, x ∈ insL l p ↔ x = p ∨ (x ∈ l ∧ x.1 ≠ p.1)
  | [], _, x => by simp [insL]
  | q :: r, h, x => by
    have hr := List.pairwise_cons.1 h
    unfold insL
    by_cases e : p.1 = q.1
    · rw [if_pos e]
      simp only [List.mem_cons]
      constructor
      · rintro (h1 | h1)
        · exact .inl h1
        · exact .inr ⟨.inr h1, fun e2 => List.lt_irrefl _ (by have := hr.1 x h1; rw [e2, e] at this; exact this)⟩
      · rintro (h1 | ⟨h1 | h1, h2⟩)
        · exact .inl h1
        · subst h1; exact absurd e.symm h2
        · exact .inr h1
    · rw [if_neg e]
      by_cases e2 : p.1 < q.1
      · rw [if_pos e2]
        simp only [List.mem_cons]
        constructor
        · rintro (h1 | h1 | h1)
          · exact .inl h1
          · subst h1; exact .inr ⟨.inl rfl, fun h => e h.symm⟩
          · exact .inr ⟨.inr h1, fun h => List.lt_irrefl _ (by have := List.lt_trans e2 (hr.1 x h1); rw [h] at this; exact this)⟩
        · rintro (h1 | ⟨h1 | h1, _⟩)
          · exact .inl h1
          · exact .inr (.inl h1)
          · exact .inr (.inr h1)
      · rw [if_neg e2, List.mem_cons, mem_insL p r hr.2 x, List.mem_cons]
        constructor
        · rintro (h1 | h1 | ⟨h1, h2⟩)
          · subst h1; exact .inr ⟨.inl rfl, fun h => e h.symm⟩
          · exact .inl h1
          · exact .inr ⟨.inr h1, h2⟩
        · rintro (h1 | ⟨h1 | h1, h2⟩)
          · exact .inr (.inl h1)
          · exact .inl h1
          · exact .inr (.inr ⟨h1, h2⟩)
theorem sorted_insL (p : List UInt8 × List UInt8) : ∀ (l : List (List UInt8 × List UInt8)), SortedK l → SortedK (insL l p)
  | [], _ => List.pairwise_singleton _ _
  | q :: r, h => by
    have hr := List.pairwise_cons.1 h
    unfold insL
    by_cases e : p.1 = q.1
    · rw [if_pos e]
      exact List.pairwise_cons.2 ⟨fun x hx => e ▸ hr.1 x hx, hr.2⟩
    · rw [if_neg e]
      by_cases e2 : p.1 < q.1
      · rw [if_pos e2]
        refine List.pairwise_cons.2 ⟨fun x hx => ?_, h⟩
        rcases List.mem_cons.1 hx with rfl | hx
        · exact e2
        · exact List.lt_trans e2 (hr.1 x hx)
      · rw [if_neg e2]
        refine List.pairwise_cons.2 ⟨fun x hx => ?_, sorted_insL p r hr.2⟩
        rcases (mem_insL p r hr.2 x).1 hx with rfl | ⟨hx, _⟩
        · exact lt_tri _ _ e e2
        · exact hr.1 x hx
def mapD (qs : List (List UInt8 × List UInt8)) : DataW Unit := qs.foldl (fun D q => D.put (.string q.1) (.lit (.string q.2))) (.map [])
def Good (D : DataW Unit) (l : List (List UInt8 × List UInt8)) : Prop :=
  Tidy D ∧ (∃ es, D = .map es ∧ ∀ p ∈ es, ∃ x, p.1 = .string x) ∧ SortedK l ∧ (∀ x, (∃ v, (x, v) ∈ l) ↔ has D (.string x) = true) ∧ ∀ k v, (k, v) ∈ l → ∀ z, D.atKey (.string k) z = .lit (.string v)
theorem good_put {D : DataW Unit} {l : List (List UInt8 × List UInt8)} (h : Good D l) (k v : List UInt8) : Good (D.put (.string k) (.lit (.string v))) (insL l (k, v)) := by
  obtain ⟨h1, ⟨es, rfl, he⟩, h3, h4, h5⟩ := h
  have hk : WideAt.IsKeyLit (.string k) := trivial
  refine ⟨h1.put hk _, ⟨_, rfl, ?_⟩, sorted_insL _ _ h3, fun x => ?_, fun k' v' hm z => ?_⟩
  · intro p hp
    rcases List.mem_cons.1 ((WideShapes.insert_perm _ _).mem_iff.1 hp) with rfl | hp
    · exact ⟨k, rfl⟩
    · exact he p (List.mem_filter.1 hp).1
  · by_cases e : x = k
    · subst e
      rw [has_put_same h1.isMap hk]
      exact ⟨fun _ => rfl, fun _ => ⟨v, (mem_insL _ _ h3 _).2 (.inl rfl)⟩⟩
    · rw [has_put_other (by intro h; injection h with h; exact e h), ← h4 x]
      constructor
      · rintro ⟨v', hv⟩
        rcases (mem_insL _ _ h3 _).1 hv with h | ⟨h, _⟩
        · injection h with h _; exact absurd h e
        · exact ⟨v', h⟩
      · rintro ⟨v', hv⟩
        exact ⟨v', (mem_insL _ _ h3 _).2 (.inr ⟨hv, e⟩)⟩
  · rcases (mem_insL _ _ h3 _).1 hm with h | ⟨h, hne⟩
    · injection h with e1 e2
      subst e1; subst e2
      exact atKey_put_same h1.isMap hk _ _
    · rw [atKey_put_other (by intro h; injection h with h; exact hne h)]
      exact h5 k' v' h z
theorem good_empty : Good (.map []) [] := ⟨tidy_empty, ⟨[], rfl, by simp⟩, List.Pairwise.nil, by simp [has], by simp⟩
theorem good_fold : ∀ (qs : List (List UInt8 × List UInt8)) (D : DataW Unit) (l : List (List UInt8 × List UInt8)), Good D l → Good (qs.foldl (fun D q => D.put (.string q.1) (.lit (.string q.2))) D) (qs.foldl insL l)
  | [], _, _, h => h
  | q :: qs, D, l, h => good_fold qs _ _ (good_put h q.1 q.2)
theorem good_pairs (qs : List (List UInt8 × List UInt8)) : Good (mapD qs) (pairsL qs) := good_fold qs _ _ good_empty
theorem sorted_keys (qs : List (List UInt8 × List UInt8)) (ss : List (List UInt8)) (h : ss.Perm (strKeys (mapD qs))) : ss.mergeSort (fun x y => decide (x ≤ y)) = (pairsL qs).map (·.1) := by
  obtain ⟨h1, ⟨es, he, hs⟩, h3, h4, h5⟩ := good_pairs qs
  have hnd : ((pairsL qs).map (·.1)).Nodup := by
    refine List.pairwise_map.2 (h3.imp ?_)
    intro a b hlt e
    rw [e] at hlt
    exact List.lt_irrefl _ hlt
  have hp : ((pairsL qs).map (·.1)).Perm (strKeys (mapD qs)) := by
    obtain ⟨es', he', hp'⟩ := h1
    rw [he]
    refine perm_strKeys (by rw [he] at he'; injection he' with he'; rw [he']; exact hp') hs hnd fun x => ?_
    rw [← he, ← h4 x]
    simp
  have := mergeSort_of_perm (h.trans hp.symm)
  rw [show (fun x y : List UInt8 => decide (x ≤ y)) = leB from rfl, this]
  have tr : ∀ a b c : List UInt8, leB a b = true → leB b c = true → leB a c = true := fun a b c h1 h2 => by simp only [leB, decide_eq_true_eq] at *; exact List.le_trans h1 h2
  have to : ∀ a b : List UInt8, (leB a b || leB b a) = true := fun a b => by simp only [leB, Bool.or_eq_true, decide_eq_true_eq]; exact List.le_total a b
  refine List.Perm.eq_of_pairwise (le := fun a b => leB a b = true) (fun a b _ _ h1 h2 => ?_) (List.pairwise_mergeSort tr to _) ?_ (List.mergeSort_perm _ leB)
  · simp only [leB, decide_eq_true_eq] at h1 h2
    exact List.le_antisymm h1 h2
  · refine List.pairwise_map.2 (h3.imp fun {a b} hlt => ?_)
    simp only [leB, decide_eq_true_eq]
    exact List.not_lt.1 fun h => List.lt_irrefl _ (List.lt_trans h hlt)
end Go.Proofs.YtocgkpdolgnbgaaGreatDoor
