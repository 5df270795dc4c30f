/- What the specification's uses, pattern and sites return. -/
import Derived.Test.YtocgkpdolgnbgaaGreatDoorMGI
import Derived.Test.YtocgkpdolgnbgaaGreatDoorMJA
import Derived.Test.YtocgkpdolgnbgaaGreatDoorMRef22
import Derived.Test.YtocgkpdolgnbgaaGreatDoorProg
import Derived.WalkKit
import Derived.WalkSpells
import Derived.WalkLawsBesides
import Derived.Below
import Derived.Deep.QuietTactic
import Derived.BigQuiet
import Derived.Lib.QuietBelow
import Derived.Lib.Strings
import Derived.Lib.Hide
import Derived.Deep.RegionWith
import Derived.Deep.RegionHeld3
import Derived.Lib.IndexBytes
namespace Go.Proofs.YtocgkpdolgnbgaaGreatDoor
open Go.RowKit Go.Sort
set_option linter.unusedVariables false
set_option linter.unusedSimpArgs false
set_option maxRecDepth 100000
theorem rUses_any (a b : Int) (w : World) (ha : 0 ≤ a) (hb : 0 ≤ b) : Calls Tryz.prog 50 #[.int .i64 a, .int .i64 b] w (Ret w (.int .i64 (usesM a b))) := by
  by_cases h1 : a = 0
  · have d1 : (a == 0) = true := by simpa using h1
    have hv : usesM a b = b := by unfold usesM; split <;> omega
    rw [hv]
    go_enter Tryz.func50, Tryz.ntmps50
    go_wp2
    go_ret
    exact ⟨rfl, by (repeat (first | exact .refl _ _ | assumption | refine .drew ?_ | refine balloc ?_ _ | refine bdrewN ?_ _ | refine .setCell ?_ (by simp <;> omega) _ | refine bstep ?_ (by assumption)))⟩
  have d1 : (a == 0) = false := by simpa using h1
  by_cases h2 : b = 0
  · have d2 : (b == 0) = true := by simpa using h2
    have hv : usesM a b = a := by unfold usesM; split <;> omega
    rw [hv]
    go_enter Tryz.func50, Tryz.ntmps50
    go_wp2
    go_ret
    exact ⟨rfl, by (repeat (first | exact .refl _ _ | assumption | refine .drew ?_ | refine balloc ?_ _ | refine bdrewN ?_ _ | refine .setCell ?_ (by simp <;> omega) _ | refine bstep ?_ (by assumption)))⟩
  have d2 : (b == 0) = false := by simpa using h2
  have hv : usesM a b = min a b := by unfold usesM; rw [if_pos (by omega)]
  rw [hv]
  go_enter Tryz.func50, Tryz.ntmps50
  go_wp2
  go_ret
  exact ⟨ret_int (by first | rfl | omega), by (repeat (first | exact .refl _ _ | assumption | refine .drew ?_ | refine balloc ?_ _ | refine bdrewN ?_ _ | refine .setCell ?_ (by simp <;> omega) _ | refine bstep ?_ (by assumption)))⟩
def patR (p q : ByteArray) : ByteArray × Bool := if p.size = 0 then (q, true) else if q.size = 0 then (p, true) else ((bothR (bothP p q)).1, (bothR (bothP p q)).2.1)
set_option maxHeartbeats 4000000 in
theorem rPattern_any (p q : ByteArray) (w : World) (hp : p.size ≤ 100000) (hq : q.size ≤ 100000) : Calls Tryz.prog 47 #[.string p, .string q] w (Ret w (.tuple #[.string (patR p q).1, .bool (patR p q).2])) := by
  have hE : ∀ s : ByteArray, s.size = 0 → s.toList = [] := fun s h => by rw [Lib.toList_data]; exact List.eq_nil_of_length_eq_zero (by rw [← Lib.size_eq]; exact h)
  have hN : ∀ s : ByteArray, s.size ≠ 0 → ¬ s.toList = [] := fun s h e => h (by rw [Lib.toList_data] at e; rw [Lib.size_eq, e]; rfl)
  unfold patR
  by_cases h1 : p.size = 0
  · have e1 := hE p h1
    have e2 : (p.toList == []) = true := by rw [e1]; rfl
    rw [if_pos h1]
    go_enter Tryz.func47, Tryz.ntmps47
    go_wp2
    go_ret2
    exact ⟨rfl, by (repeat (first | exact .refl _ _ | assumption | refine .drew ?_ | refine balloc ?_ _ | refine bdrewN ?_ _ | refine .setCell ?_ (by simp <;> omega) _ | refine bstep ?_ (by assumption)))⟩
  have e1 := hN p h1
  have e2 : (p.toList == []) = false := by simpa using e1
  rw [if_neg h1]
  by_cases h2 : q.size = 0
  · have e3 := hE q h2
    have e4 : (q.toList == []) = true := by rw [e3]; rfl
    rw [if_pos h2]
    go_enter Tryz.func47, Tryz.ntmps47
    go_wp2
    go_ret2
    exact ⟨rfl, by (repeat (first | exact .refl _ _ | assumption | refine .drew ?_ | refine balloc ?_ _ | refine bdrewN ?_ _ | refine .setCell ?_ (by simp <;> omega) _ | refine bstep ?_ (by assumption)))⟩
  have e3 := hN q h2
  have e4 : (q.toList == []) = false := by simpa using e3
  rw [if_neg h2]
  have cB := fun W => rBoth2_any p q W hp hq
  generalize bothR (bothP p q) = r at *
  obtain ⟨s, t, f⟩ := r
  dsimp only at cB ⊢
  have CB := Lib.hid cB
  clear cB
  go_enter Tryz.func47, Tryz.ntmps47
  go_wp2_with (go_at_call 104; refine (CB.out _).mono ?_; rintro e w2 ⟨rfl, hb2⟩; have hJ : JBox (w2.alloc (.cells #[.string s, .bool t, .int .i64 f] 135)) w2.heap.size s t f := World.alloc_heap_new _ _; obtain ⟨j0, j1, j2, _⟩ := hJ.facts)
  go_quiet (fail)
  go_wp2
  go_ret2
  exact ⟨rfl, by (repeat (first | exact .refl _ _ | assumption | refine .drew ?_ | refine balloc ?_ _ | refine bdrewN ?_ _ | refine .setCell ?_ (by simp <;> omega) _ | refine bstep ?_ (by assumption)))⟩
def sitesR (a b : List Int) : Bool := (List.range 64).all fun i => !allowsL a (i : Int) || allowsL b (i : Int)
theorem sitesR_incl {a b : List Int} (ha : ∀ x ∈ a, siteB x = true) : sitesR a b = inclS a b := by
  rw [Bool.eq_iff_iff, inclS_iff]
  unfold sitesR
  simp only [List.all_eq_true, List.mem_range, Bool.or_eq_true, Bool.not_eq_true', ← Bool.not_eq_true, allows_iff]
  constructor
  · intro h
    by_cases hb : b = []
    · exact .inl hb
    · refine .inr fun x hx => ?_
      have hs := fullS_site ha x hx
      unfold siteB at hs
      simp only [decide_eq_true_eq] at hs
      have h1 := h x.toNat (by omega)
      rw [show ((x.toNat : Nat) : Int) = x by omega] at h1
      rcases h1 with h1 | h1 | h1
      · refine absurd ?_ h1
        unfold fullS at hx
        cases a with
        | nil => exact .inl rfl
        | cons y l => exact .inr (by simpa using hx)
      · exact absurd h1 hb
      · exact h1
  · intro h i hi
    by_cases hA : a = [] ∨ (i : Int) ∈ a
    · refine .inr ?_
      rcases h with h | h
      · exact .inl h
      · refine .inr (h _ ?_)
        unfold fullS
        rcases hA with rfl | hA
        · simp; exact ⟨i, hi, rfl⟩
        · cases a with
          | nil => simp at hA
          | cons y l => simpa using hA
    · exact .inl hA
end Go.Proofs.YtocgkpdolgnbgaaGreatDoor
namespace Go.Proofs.YtocgkpdolgnbgaaGreatDoor
open Go.RowKit Go.Sort
set_option linter.unusedVariables false
set_option linter.unusedSimpArgs false
set_option maxRecDepth 100000
theorem infoInt7 : (Tryz.prog.info? 3).map (fun i => (i.zero, i.size, i.bytes)) = some (some (.int .i64 0), 1, 8) := by kernel_rfl
theorem bothF_nil {α : Type} [DecidableEq α] (ys : List α) : bothF [] ys = ys ∧ bothOk [] ys = true := by
  have h := bothO_nil ys
  unfold bothO at h
  split at h
  · rename_i h2; injection h with h; exact ⟨h, h2⟩
  · cases h
theorem bothF_nil2 {α : Type} [DecidableEq α] (xs : List α) : bothF xs [] = xs ∧ bothOk xs [] = true := by
  have h := bothO_nil2 xs
  unfold bothO at h
  split at h
  · rename_i h2; injection h with h; exact ⟨h, h2⟩
  · cases h
theorem bothF_two {α : Type} [DecidableEq α] {xs ys : List α} (h1 : xs ≠ []) (h2 : ys ≠ []) : bothF xs ys = xs.filter (fun x => hasL ys x) ∧ bothOk xs ys = !(bothF xs ys).isEmpty := by
  have e1 : xs.isEmpty = false := by cases xs; exact absurd rfl h1; rfl
  have e2 : ys.isEmpty = false := by cases ys; exact absurd rfl h2; rfl
  unfold bothOk bothF
  rw [e1]
  simp only [Bool.false_eq_true, if_false, e1, Bool.or_false, and_true]
  congr 1
  funext x
  unfold allowsL
  rw [e2, Bool.false_or]; rfl
theorem filter_take {α : Type} (f : α → Bool) {l : List α} {k : Nat} {x : α} (hx : l[k]? = some x) : (l.take (k + 1)).filter f = (l.take k).filter f ++ (if f x then [x] else []) := by
  rw [List.take_add_one, hx, Option.toList_some, List.filter_append]
  congr 1
  simp only [List.filter_cons, List.filter_nil]
def RBothS (xs ys : List ByteArray) (w : World) (e : Ending) (w' : World) : Prop :=
  Below w.heap.size w w' ∧ ∃ S cs, e = .returned (.tuple #[.slice S (bothF xs ys).length cs, .bool (bothOk xs ys)]) ∧ Reads w' 1 S (bothF xs ys).length ((bothF xs ys).map .string)
set_option maxHeartbeats 4000000 in
theorem rBothS_any (A : Option Addr) (n c : Nat) (B : Option Addr) (m d : Nat) (xs ys : List ByteArray) (w : World) (hA : Reads w 1 A n (xs.map .string)) (hB : Reads w 1 B m (ys.map .string)) (hn : n ≤ 1000000) (hm : m ≤ 1000000) :
    Calls Tryz.prog 48 #[.slice A n c, .slice B m d] w (RBothS xs ys w) := by
  have hl : xs.length = n := by have := hA.1; simp at this; omega
  have hl2 : ys.length = m := by have := hB.1; simp at this; omega
  have hbf := fun h1 h2 => bothF_two (xs := xs) (ys := ys) h1 h2
  obtain ⟨F, hF⟩ : ∃ F, F = bothF xs ys := ⟨_, rfl⟩
  obtain ⟨K, hK⟩ : ∃ K, K = bothOk xs ys := ⟨_, rfl⟩
  unfold RBothS
  rw [← hF, ← hK]
  by_cases h1 : n = 0
  · subst h1
    obtain rfl : xs = [] := List.eq_nil_of_length_eq_zero hl
    obtain ⟨e1, e2⟩ := bothF_nil ys
    obtain rfl : F = ys := by rw [hF, e1]
    obtain rfl : K = true := by rw [hK, e2]
    rw [hl2]
    clear hF hK hbf e1 e2 hl
    go_enter Tryz.func48, Tryz.ntmps48
    go_wp2
    go_ret2
    exact ⟨by (repeat (first | exact .refl _ _ | assumption | refine .drew ?_ | refine balloc ?_ _ | refine bdrewN ?_ _ | refine .setCell ?_ (by simp <;> omega) _ | refine bstep ?_ (by assumption))), _, _, rfl, hB⟩
  by_cases h2 : m = 0
  · subst h2
    obtain rfl : ys = [] := List.eq_nil_of_length_eq_zero hl2
    obtain ⟨e1, e2⟩ := bothF_nil2 xs
    obtain rfl : F = xs := by rw [hF, e1]
    obtain rfl : K = true := by rw [hK, e2]
    rw [hl]
    have z1 : ((n : Int) == 0) = false := by simp; omega
    clear hF hK hbf e1 e2 hl2
    go_enter Tryz.func48, Tryz.ntmps48
    go_wp2
    go_ret2
    exact ⟨by (repeat (first | exact .refl _ _ | assumption | refine .drew ?_ | refine balloc ?_ _ | refine bdrewN ?_ _ | refine .setCell ?_ (by simp <;> omega) _ | refine bstep ?_ (by assumption))), _, _, rfl, hA⟩
  obtain ⟨e1, e2⟩ := hbf (by intro e; rw [e] at hl; simp at hl; omega) (by intro e; rw [e] at hl2; simp at hl2; omega)
  rw [e2, ← hF] at hK
  rw [e1] at hF
  have z1 : ((n : Int) == 0) = false := by simp; omega
  have z2 : ((m : Int) == 0) = false := by simp; omega
  obtain ⟨i0, hi0, hz0, hz1, hz2⟩ := info_parts infoStr
  have HI : Hid ((Tryz.prog.info? 9 = some i0) ∧ i0.zero = some (.string ⟨#[]⟩) ∧ i0.size = 1 ∧ i0.bytes = 16) := Lib.hid ⟨hi0, hz0, hz1, hz2⟩
  have cH := fun (s : ByteArray) (W : World) (hb : Below w.heap.size w W) => rHas21_any B m d ys s W (hB.keep hb) (by omega)
  have HL := Lib.hid hl; have HA := Lib.hid hA; have HH := Lib.hid cH; have HF := Lib.hid hF; have HK0 := Lib.hid hK
  clear hi0 hz0 hz1 hz2 hl hl2 hA hB hbf e1 e2 hF hK cH
  go_enter Tryz.func48, Tryz.ntmps48
  go_wp2
  go_loopw [6, 7] (fun va vi wr => ∃ (k p : Nat) (acc : List ByteArray) (A' : Option Addr) (c' : Nat), (vi = .int .i64 k ∧ va = .slice A' p c' ∧ k ≤ n ∧ p ≤ k) ∧ Hid (acc = (xs.take k).filter (fun x => hasL ys x) ∧ acc.length = p) ∧ wr.ownsRow w.heap.size 9 1 (.slice A' p c') p (acc.map .string) ∧ Below w.heap.size w wr) (fun _ i _ => n - (intOf i).toNat)
  case atStart => exact ⟨0, 0, [], none, 0, ⟨rfl, rfl, Nat.zero_le _, Nat.le_refl _⟩, Lib.hid ⟨rfl, rfl⟩, World.ownsRow_nil _ _ _ _, Below.refl _ _⟩
  case round =>
    obtain ⟨k, p, acc, A', c', ⟨rfl, rfl, hk, hp⟩, HK, hown, hbr⟩ := hrel
    have hbs := hbr.size
    by_cases hlt : k < n
    · obtain ⟨x, hx⟩ : ∃ x, xs[k]? = some x := ⟨_, List.getElem?_eq_getElem (by have := HL.out; omega)⟩
      obtain ⟨b, o, rfl, hcell⟩ := (HA.out.keep hbr).2 (by omega)
      have hc1 : wr.cell? ⟨b, o + k, none⟩ = some (.string x) := hcell k _ (by simp [hx])
      have hk0 : (0 : Int) ≤ (k : Int) := by omega
      have hk1 : (k : Int) < (n : Int) := by omega
      have cH := HH.out x
      have hst := filter_take (fun x => hasL ys x) hx
      rw [← HK.out.1] at hst
      have hml := HK.out.2
      cases ht : hasL ys x
      · rw [ht] at cH
        rw [ht] at hst
        have HK2 : Hid (acc = (xs.take (k + 1)).filter (fun x => hasL ys x) ∧ acc.length = p) := Lib.hid ⟨by rw [hst]; simp, hml⟩
        have HC := Lib.hid cH
        clear hcell hx cH ht hst hml HK
        go_wp2_with (go_at_call 85; refine (HC.out _ (by (repeat (first | exact .refl _ _ | assumption | refine .drew ?_ | refine balloc ?_ _ | refine bdrewN ?_ _ | refine .setCell ?_ (by simp <;> omega) _ | refine bstep ?_ (by assumption))))).mono ?_; rintro e w2 ⟨rfl, hb2⟩)
        exact ⟨⟨k + 1, p, acc, A', c', ⟨by go_num, rfl, by omega, by omega⟩, HK2, ownsRow_keep hown hb2, by (repeat (first | exact .refl _ _ | assumption | refine .drew ?_ | refine balloc ?_ _ | refine bdrewN ?_ _ | refine .setCell ?_ (by simp <;> omega) _ | refine bstep ?_ (by assumption)))⟩, by simp [intOf]; omega⟩
      · rw [ht] at cH
        rw [ht] at hst
        have HK2 : Hid (acc ++ [x] = (xs.take (k + 1)).filter (fun x => hasL ys x) ∧ (acc ++ [x]).length = p + 1) := Lib.hid ⟨by rw [hst]; simp, by simp [hml]⟩
        have HC := Lib.hid cH
        clear hcell hx cH ht hst hml HK
        go_wp2_with (first | (go_at_call 85; refine (HC.out _ (by (repeat (first | exact .refl _ _ | assumption | refine .drew ?_ | refine balloc ?_ _ | refine bdrewN ?_ _ | refine .setCell ?_ (by simp <;> omega) _ | refine bstep ?_ (by assumption))))).mono ?_; rintro e w2 ⟨rfl, hb2⟩; have hc2 := cell_keep hb2 hc1; have hown2 := ownsRow_keep hown hb2; have hbr2 := bstep hbr hb2; have hbs2 := hbr2.size) | (at_builtin; refine wpList_append_own _ rfl _ _ 22 rfl w.heap.size 9 i0 (.string ⟨#[]⟩) 1 16 Tryz.underlying22 HI.out.1 HI.out.2.1 HI.out.2.2.1 HI.out.2.2.2 rfl (by decide) _ _ _ rfl (hown2.alloc _) ⟨w2.heap.size, 0, none⟩ 1 1 [.string x] rfl rfl (cell_one_new _ _ _) (by simp [Value.oneCell']) (by unfold maxLen; omega) (by omega) (by simp; omega) ?_; intro v' w3 hown1 hgrow1 _; obtain ⟨g1, cap1, rfl⟩ := ownsRow_succ hown1; have hb3 : Below w.heap.size w w3 := (hbr2.alloc hbs2 _).grown hgrow1 (by simp; omega) (fun r e => ownsRow_block hown2 r e)))
        exact ⟨⟨k + 1, p + 1, acc ++ [x], some ⟨g1, 0, none⟩, cap1, ⟨by go_num, rfl, by omega, by omega⟩, HK2, by rw [List.map_append]; exact hown1, hb3⟩, by simp [intOf]; omega⟩
    · obtain rfl : k = n := by omega
      obtain rfl : F = acc := by
        rw [HF.out, HK.out.1, List.take_of_length_le (by have := HL.out; omega)]
      have hml := HK.out.2
      have hkk : K = decide (0 < p) := by rw [HK0.out, ← hml]; cases F <;> simp
      have hd : K = decide ((0 : Int) < (p : Int)) := by rw [hkk]; exact decide_eq_decide.2 (by omega)
      have HX := Lib.hid hml; have HY := Lib.hid hkk
      clear hkk hd HK HK0 HF hml
      go_wp2
      go_ret2
      have hX := HX.out; have hY := HY.out
      refine ⟨hbr, _, _, (by rw [hX, hY]; rfl), ?_⟩
      rw [hX]
      exact Reads.of_own hown
def RBothI (xs ys : List Int) (w : World) (e : Ending) (w' : World) : Prop :=
  Below w.heap.size w w' ∧ ∃ S cs, e = .returned (.tuple #[.slice S (bothF xs ys).length cs, .bool (bothOk xs ys)]) ∧ Reads w' 1 S (bothF xs ys).length ((bothF xs ys).map (.int .i64))
set_option maxHeartbeats 4000000 in
theorem rCommon_any (A : Option Addr) (n c : Nat) (B : Option Addr) (m d : Nat) (xs ys : List Int) (w : World) (hA : Reads w 1 A n (xs.map (.int .i64))) (hB : Reads w 1 B m (ys.map (.int .i64))) (hn : n ≤ 1000000) (hm : m ≤ 1000000) :
    Calls Tryz.prog 49 #[.slice A n c, .slice B m d] w (RBothI xs ys w) := by
  have hl : xs.length = n := by have := hA.1; simp at this; omega
  have hl2 : ys.length = m := by have := hB.1; simp at this; omega
  have hbf := fun h1 h2 => bothF_two (xs := xs) (ys := ys) h1 h2
  obtain ⟨F, hF⟩ : ∃ F, F = bothF xs ys := ⟨_, rfl⟩
  obtain ⟨K, hK⟩ : ∃ K, K = bothOk xs ys := ⟨_, rfl⟩
  unfold RBothI
  rw [← hF, ← hK]
  by_cases h1 : n = 0
  · subst h1
    obtain rfl : xs = [] := List.eq_nil_of_length_eq_zero hl
    obtain ⟨e1, e2⟩ := bothF_nil ys
    obtain rfl : F = ys := by rw [hF, e1]
    obtain rfl : K = true := by rw [hK, e2]
    rw [hl2]
    clear hF hK hbf e1 e2 hl
    go_enter Tryz.func49, Tryz.ntmps49
    go_wp2
    go_ret2
    exact ⟨by (repeat (first | exact .refl _ _ | assumption | refine .drew ?_ | refine balloc ?_ _ | refine bdrewN ?_ _ | refine .setCell ?_ (by simp <;> omega) _ | refine bstep ?_ (by assumption))), _, _, rfl, hB⟩
  by_cases h2 : m = 0
  · subst h2
    obtain rfl : ys = [] := List.eq_nil_of_length_eq_zero hl2
    obtain ⟨e1, e2⟩ := bothF_nil2 xs
    obtain rfl : F = xs := by rw [hF, e1]
    obtain rfl : K = true := by rw [hK, e2]
    rw [hl]
    have z1 : ((n : Int) == 0) = false := by simp; omega
    clear hF hK hbf e1 e2 hl2
    go_enter Tryz.func49, Tryz.ntmps49
    go_wp2
    go_ret2
    exact ⟨by (repeat (first | exact .refl _ _ | assumption | refine .drew ?_ | refine balloc ?_ _ | refine bdrewN ?_ _ | refine .setCell ?_ (by simp <;> omega) _ | refine bstep ?_ (by assumption))), _, _, rfl, hA⟩
  obtain ⟨e1, e2⟩ := hbf (by intro e; rw [e] at hl; simp at hl; omega) (by intro e; rw [e] at hl2; simp at hl2; omega)
  rw [e2, ← hF] at hK
  rw [e1] at hF
  have z1 : ((n : Int) == 0) = false := by simp; omega
  have z2 : ((m : Int) == 0) = false := by simp; omega
  obtain ⟨i0, hi0, hz0, hz1, hz2⟩ := info_parts infoInt7
  have HI : Hid ((Tryz.prog.info? 3 = some i0) ∧ i0.zero = some (.int .i64 0) ∧ i0.size = 1 ∧ i0.bytes = 8) := Lib.hid ⟨hi0, hz0, hz1, hz2⟩
  have cH := fun (s : Int) (W : World) (hb : Below w.heap.size w W) => rSite_any B m d ys s W (hB.keep hb) (by omega)
  have HL := Lib.hid hl; have HA := Lib.hid hA; have HH := Lib.hid cH; have HF := Lib.hid hF; have HK0 := Lib.hid hK
  clear hi0 hz0 hz1 hz2 hl hl2 hA hB hbf e1 e2 hF hK cH
  go_enter Tryz.func49, Tryz.ntmps49
  go_wp2
  go_loopw [6, 7] (fun va vi wr => ∃ (k p : Nat) (acc : List Int) (A' : Option Addr) (c' : Nat), (vi = .int .i64 k ∧ va = .slice A' p c' ∧ k ≤ n ∧ p ≤ k) ∧ Hid (acc = (xs.take k).filter (fun x => hasL ys x) ∧ acc.length = p) ∧ wr.ownsRow w.heap.size 3 1 (.slice A' p c') p (acc.map (.int .i64)) ∧ Below w.heap.size w wr) (fun _ i _ => n - (intOf i).toNat)
  case atStart => exact ⟨0, 0, [], none, 0, ⟨rfl, rfl, Nat.zero_le _, Nat.le_refl _⟩, Lib.hid ⟨rfl, rfl⟩, World.ownsRow_nil _ _ _ _, Below.refl _ _⟩
  case round =>
    obtain ⟨k, p, acc, A', c', ⟨rfl, rfl, hk, hp⟩, HK, hown, hbr⟩ := hrel
    have hbs := hbr.size
    by_cases hlt : k < n
    · obtain ⟨x, hx⟩ : ∃ x, xs[k]? = some x := ⟨_, List.getElem?_eq_getElem (by have := HL.out; omega)⟩
      obtain ⟨b, o, rfl, hcell⟩ := (HA.out.keep hbr).2 (by omega)
      have hc1 : wr.cell? ⟨b, o + k, none⟩ = some (.int .i64 x) := hcell k _ (by simp [hx])
      have hk0 : (0 : Int) ≤ (k : Int) := by omega
      have hk1 : (k : Int) < (n : Int) := by omega
      have cH := HH.out x
      have hst := filter_take (fun x => hasL ys x) hx
      rw [← HK.out.1] at hst
      have hml := HK.out.2
      cases ht : hasL ys x
      · rw [ht] at cH
        rw [ht] at hst
        have HK2 : Hid (acc = (xs.take (k + 1)).filter (fun x => hasL ys x) ∧ acc.length = p) := Lib.hid ⟨by rw [hst]; simp, hml⟩
        have HC := Lib.hid cH
        clear hcell hx cH ht hst hml HK
        go_wp2_with (go_at_call 86; refine (HC.out _ (by (repeat (first | exact .refl _ _ | assumption | refine .drew ?_ | refine balloc ?_ _ | refine bdrewN ?_ _ | refine .setCell ?_ (by simp <;> omega) _ | refine bstep ?_ (by assumption))))).mono ?_; rintro e w2 ⟨rfl, hb2⟩)
        exact ⟨⟨k + 1, p, acc, A', c', ⟨by go_num, rfl, by omega, by omega⟩, HK2, ownsRow_keep hown hb2, by (repeat (first | exact .refl _ _ | assumption | refine .drew ?_ | refine balloc ?_ _ | refine bdrewN ?_ _ | refine .setCell ?_ (by simp <;> omega) _ | refine bstep ?_ (by assumption)))⟩, by simp [intOf]; omega⟩
      · rw [ht] at cH
        rw [ht] at hst
        have HK2 : Hid (acc ++ [x] = (xs.take (k + 1)).filter (fun x => hasL ys x) ∧ (acc ++ [x]).length = p + 1) := Lib.hid ⟨by rw [hst]; simp, by simp [hml]⟩
        have HC := Lib.hid cH
        clear hcell hx cH ht hst hml HK
        go_wp2_with (first | (go_at_call 86; refine (HC.out _ (by (repeat (first | exact .refl _ _ | assumption | refine .drew ?_ | refine balloc ?_ _ | refine bdrewN ?_ _ | refine .setCell ?_ (by simp <;> omega) _ | refine bstep ?_ (by assumption))))).mono ?_; rintro e w2 ⟨rfl, hb2⟩; have hc2 := cell_keep hb2 hc1; have hown2 := ownsRow_keep hown hb2; have hbr2 := bstep hbr hb2; have hbs2 := hbr2.size) | (at_builtin; refine wpList_append_own _ rfl _ _ 23 rfl w.heap.size 3 i0 (.int .i64 0) 1 8 Tryz.underlying23 HI.out.1 HI.out.2.1 HI.out.2.2.1 HI.out.2.2.2 rfl (by decide) _ _ _ rfl (hown2.alloc _) ⟨w2.heap.size, 0, none⟩ 1 1 [.int .i64 x] rfl rfl (cell_one_new _ _ _) (by simp [Value.oneCell']) (by unfold maxLen; omega) (by omega) (by simp; omega) ?_; intro v' w3 hown1 hgrow1 _; obtain ⟨g1, cap1, rfl⟩ := ownsRow_succ hown1; have hb3 : Below w.heap.size w w3 := (hbr2.alloc hbs2 _).grown hgrow1 (by simp; omega) (fun r e => ownsRow_block hown2 r e)))
        exact ⟨⟨k + 1, p + 1, acc ++ [x], some ⟨g1, 0, none⟩, cap1, ⟨by go_num, rfl, by omega, by omega⟩, HK2, by rw [List.map_append]; exact hown1, hb3⟩, by simp [intOf]; omega⟩
    · obtain rfl : k = n := by omega
      obtain rfl : F = acc := by
        rw [HF.out, HK.out.1, List.take_of_length_le (by have := HL.out; omega)]
      have hml := HK.out.2
      have hkk : K = decide (0 < p) := by rw [HK0.out, ← hml]; cases F <;> simp
      have hd : K = decide ((0 : Int) < (p : Int)) := by rw [hkk]; exact decide_eq_decide.2 (by omega)
      have HX := Lib.hid hml; have HY := Lib.hid hkk
      clear hkk hd HK HK0 HF hml
      go_wp2
      go_ret2
      have hX := HX.out; have hY := HY.out
      refine ⟨hbr, _, _, (by rw [hX, hY]; rfl), ?_⟩
      rw [hX]
      exact Reads.of_own hown
end Go.Proofs.YtocgkpdolgnbgaaGreatDoor
namespace Go.Proofs.YtocgkpdolgnbgaaGreatDoor
open Go.RowKit Go.Sort
set_option linter.unusedVariables false
set_option linter.unusedSimpArgs false
set_option maxRecDepth 100000
set_option maxHeartbeats 8000000 in
theorem rSites_any (A : Option Addr) (n c : Nat) (B : Option Addr) (m d : Nat) (xs ys : List Int) (w : World) (hA : Reads w 1 A n (xs.map (.int .i64))) (hB : Reads w 1 B m (ys.map (.int .i64))) (hn : n ≤ 1000000000) (hm : m ≤ 1000000000) : Calls Tryz.prog 53 #[.slice A n c, .slice B m d] w (Ret w (.bool (sitesR xs ys))) := by
  have hl : xs.length = n := by have := hA.1; simp at this; omega
  have hl2 : ys.length = m := by have := hB.1; simp at this; omega
  obtain ⟨V, hV⟩ : ∃ V, V = sitesR xs ys := ⟨_, rfl⟩
  rw [← hV]
  have cA := fun (s : Int) (W : World) (hb : Below w.heap.size w W) => rSite_any A n c xs s W (hA.keep hb) hn
  have cB := fun (s : Int) (W : World) (hb : Below w.heap.size w W) => rSite_any B m d ys s W (hB.keep hb) hm
  have HV := Lib.hid hV; have HCA := Lib.hid cA; have HCB := Lib.hid cB; have HL := Lib.hid hl; have HL2 := Lib.hid hl2
  clear hA hV hB cA cB hl hl2
  go_enter Tryz.func53, Tryz.ntmps53
  go_wp2
  go_loopw [5] (fun i wr => ∃ k : Nat, k ≤ 64 ∧ i = .int .i64 k ∧ Hid ((List.range k).all (fun i => !allowsL xs (i : Int) || allowsL ys (i : Int)) = true) ∧ Below w.heap.size w wr) (fun i _ => 64 - (intOf i).toNat)
  case atStart => exact ⟨0, by omega, rfl, Lib.hid rfl, Below.refl _ _⟩
  case round =>
    obtain ⟨k, hk, rfl, HK, hb⟩ := hrel
    by_cases hlt : k < 64
    · have c1 := HCA.out (k : Int)
      have c2 := HCB.out (k : Int)
      have kA := allowsL_cases xs (k : Int)
      have kB := allowsL_cases ys (k : Int)
      have hup : (!allowsL xs (k : Int) || allowsL ys (k : Int)) = true → (List.range (k + 1)).all (fun i => !allowsL xs (i : Int) || allowsL ys (i : Int)) = true := fun h => by
        rw [List.range_succ, List.all_append, HK.out]
        simp only [List.all_cons, List.all_nil, Bool.and_true, Bool.true_and]
        exact h
      have hdn : (!allowsL xs (k : Int) || allowsL ys (k : Int)) = false → V = false := fun h => by
        rw [HV.out]
        unfold sitesR
        rw [List.all_eq_false]
        exact ⟨k, by simpa using hlt, by rw [h]; simp⟩
      rw [HL.out] at kA
      rw [HL2.out] at kB
      generalize allowsL xs (k : Int) = v1 at *
      generalize allowsL ys (k : Int) = v2 at *
      generalize hasL xs (k : Int) = u1 at *
      generalize hasL ys (k : Int) = u2 at *
      clear HK
      have C1 := Lib.hid c1
      have C2 := Lib.hid c2
      have HU := Lib.hid hup
      clear c1 c2 hup
      have z0 : ∀ q : Nat, q = 0 → ((q : Int) == 0) = true := fun q h => by simp; omega
      have z1 : ∀ q : Nat, 0 < q → ((q : Int) == 0) = false := fun q h => by simp; omega
      rcases kA with ⟨e1, rfl⟩ | ⟨e1, rfl, rfl⟩ | ⟨e1, rfl, rfl⟩
      · have f1 := z0 n e1
        rcases kB with ⟨e2, rfl⟩ | ⟨e2, rfl, rfl⟩ | ⟨e2, rfl, rfl⟩
        · have f2 := z0 m e2
          have HU2 := Lib.hid (HU.out rfl)
          clear hdn HU z0 z1 e1 e2
          go_wp2_with (go_at_call 86; first | ((with_reducible refine (C1.out _ (by (repeat (first | exact .refl _ _ | assumption | refine .drew ?_ | refine balloc ?_ _ | refine bdrewN ?_ _ | refine .setCell ?_ (by simp <;> omega) _ | refine bstep ?_ (by assumption))))).mono ?_); clear C1; rintro e w2 ⟨rfl, hb2⟩) | ((with_reducible refine (C2.out _ (by (repeat (first | exact .refl _ _ | assumption | refine .drew ?_ | refine balloc ?_ _ | refine bdrewN ?_ _ | refine .setCell ?_ (by simp <;> omega) _ | refine bstep ?_ (by assumption))))).mono ?_); rintro e w3 ⟨rfl, hb3⟩))
          all_goals exact ⟨⟨k + 1, by omega, by go_num, HU2, by (repeat (first | exact .refl _ _ | assumption | refine .drew ?_ | refine balloc ?_ _ | refine bdrewN ?_ _ | refine .setCell ?_ (by simp <;> omega) _ | refine bstep ?_ (by assumption)))⟩, by simp [intOf]; omega⟩
        · have f2 := z1 m e2
          have HU2 := Lib.hid (HU.out rfl)
          clear hdn HU z0 z1 e1 e2
          go_wp2_with (go_at_call 86; first | ((with_reducible refine (C1.out _ (by (repeat (first | exact .refl _ _ | assumption | refine .drew ?_ | refine balloc ?_ _ | refine bdrewN ?_ _ | refine .setCell ?_ (by simp <;> omega) _ | refine bstep ?_ (by assumption))))).mono ?_); clear C1; rintro e w2 ⟨rfl, hb2⟩) | ((with_reducible refine (C2.out _ (by (repeat (first | exact .refl _ _ | assumption | refine .drew ?_ | refine balloc ?_ _ | refine bdrewN ?_ _ | refine .setCell ?_ (by simp <;> omega) _ | refine bstep ?_ (by assumption))))).mono ?_); rintro e w3 ⟨rfl, hb3⟩))
          all_goals exact ⟨⟨k + 1, by omega, by go_num, HU2, by (repeat (first | exact .refl _ _ | assumption | refine .drew ?_ | refine balloc ?_ _ | refine bdrewN ?_ _ | refine .setCell ?_ (by simp <;> omega) _ | refine bstep ?_ (by assumption)))⟩, by simp [intOf]; omega⟩
        · have f2 := z1 m e2
          obtain rfl : V = false := hdn rfl
          clear hdn HU z0 z1 e1 e2
          go_wp2_with (go_at_call 86; first | ((with_reducible refine (C1.out _ (by (repeat (first | exact .refl _ _ | assumption | refine .drew ?_ | refine balloc ?_ _ | refine bdrewN ?_ _ | refine .setCell ?_ (by simp <;> omega) _ | refine bstep ?_ (by assumption))))).mono ?_); clear C1; rintro e w2 ⟨rfl, hb2⟩) | ((with_reducible refine (C2.out _ (by (repeat (first | exact .refl _ _ | assumption | refine .drew ?_ | refine balloc ?_ _ | refine bdrewN ?_ _ | refine .setCell ?_ (by simp <;> omega) _ | refine bstep ?_ (by assumption))))).mono ?_); rintro e w3 ⟨rfl, hb3⟩))
          all_goals (go_ret; exact ⟨rfl, by (repeat (first | exact .refl _ _ | assumption | refine .drew ?_ | refine balloc ?_ _ | refine bdrewN ?_ _ | refine .setCell ?_ (by simp <;> omega) _ | refine bstep ?_ (by assumption)))⟩)
      · have f1 := z1 n e1
        rcases kB with ⟨e2, rfl⟩ | ⟨e2, rfl, rfl⟩ | ⟨e2, rfl, rfl⟩
        · have f2 := z0 m e2
          have HU2 := Lib.hid (HU.out rfl)
          clear hdn HU z0 z1 e1 e2
          go_wp2_with (go_at_call 86; first | ((with_reducible refine (C1.out _ (by (repeat (first | exact .refl _ _ | assumption | refine .drew ?_ | refine balloc ?_ _ | refine bdrewN ?_ _ | refine .setCell ?_ (by simp <;> omega) _ | refine bstep ?_ (by assumption))))).mono ?_); clear C1; rintro e w2 ⟨rfl, hb2⟩) | ((with_reducible refine (C2.out _ (by (repeat (first | exact .refl _ _ | assumption | refine .drew ?_ | refine balloc ?_ _ | refine bdrewN ?_ _ | refine .setCell ?_ (by simp <;> omega) _ | refine bstep ?_ (by assumption))))).mono ?_); rintro e w3 ⟨rfl, hb3⟩))
          all_goals exact ⟨⟨k + 1, by omega, by go_num, HU2, by (repeat (first | exact .refl _ _ | assumption | refine .drew ?_ | refine balloc ?_ _ | refine bdrewN ?_ _ | refine .setCell ?_ (by simp <;> omega) _ | refine bstep ?_ (by assumption)))⟩, by simp [intOf]; omega⟩
        · have f2 := z1 m e2
          have HU2 := Lib.hid (HU.out rfl)
          clear hdn HU z0 z1 e1 e2
          go_wp2_with (go_at_call 86; first | ((with_reducible refine (C1.out _ (by (repeat (first | exact .refl _ _ | assumption | refine .drew ?_ | refine balloc ?_ _ | refine bdrewN ?_ _ | refine .setCell ?_ (by simp <;> omega) _ | refine bstep ?_ (by assumption))))).mono ?_); clear C1; rintro e w2 ⟨rfl, hb2⟩) | ((with_reducible refine (C2.out _ (by (repeat (first | exact .refl _ _ | assumption | refine .drew ?_ | refine balloc ?_ _ | refine bdrewN ?_ _ | refine .setCell ?_ (by simp <;> omega) _ | refine bstep ?_ (by assumption))))).mono ?_); rintro e w3 ⟨rfl, hb3⟩))
          all_goals exact ⟨⟨k + 1, by omega, by go_num, HU2, by (repeat (first | exact .refl _ _ | assumption | refine .drew ?_ | refine balloc ?_ _ | refine bdrewN ?_ _ | refine .setCell ?_ (by simp <;> omega) _ | refine bstep ?_ (by assumption)))⟩, by simp [intOf]; omega⟩
        · have f2 := z1 m e2
          obtain rfl : V = false := hdn rfl
          clear hdn HU z0 z1 e1 e2
          go_wp2_with (go_at_call 86; first | ((with_reducible refine (C1.out _ (by (repeat (first | exact .refl _ _ | assumption | refine .drew ?_ | refine balloc ?_ _ | refine bdrewN ?_ _ | refine .setCell ?_ (by simp <;> omega) _ | refine bstep ?_ (by assumption))))).mono ?_); clear C1; rintro e w2 ⟨rfl, hb2⟩) | ((with_reducible refine (C2.out _ (by (repeat (first | exact .refl _ _ | assumption | refine .drew ?_ | refine balloc ?_ _ | refine bdrewN ?_ _ | refine .setCell ?_ (by simp <;> omega) _ | refine bstep ?_ (by assumption))))).mono ?_); rintro e w3 ⟨rfl, hb3⟩))
          all_goals (go_ret; exact ⟨rfl, by (repeat (first | exact .refl _ _ | assumption | refine .drew ?_ | refine balloc ?_ _ | refine bdrewN ?_ _ | refine .setCell ?_ (by simp <;> omega) _ | refine bstep ?_ (by assumption)))⟩)
      · have f1 := z1 n e1
        rcases kB with ⟨e2, rfl⟩ | ⟨e2, rfl, rfl⟩ | ⟨e2, rfl, rfl⟩
        · have f2 := z0 m e2
          have HU2 := Lib.hid (HU.out rfl)
          clear hdn HU z0 z1 e1 e2
          go_wp2_with (go_at_call 86; first | ((with_reducible refine (C1.out _ (by (repeat (first | exact .refl _ _ | assumption | refine .drew ?_ | refine balloc ?_ _ | refine bdrewN ?_ _ | refine .setCell ?_ (by simp <;> omega) _ | refine bstep ?_ (by assumption))))).mono ?_); clear C1; rintro e w2 ⟨rfl, hb2⟩) | ((with_reducible refine (C2.out _ (by (repeat (first | exact .refl _ _ | assumption | refine .drew ?_ | refine balloc ?_ _ | refine bdrewN ?_ _ | refine .setCell ?_ (by simp <;> omega) _ | refine bstep ?_ (by assumption))))).mono ?_); rintro e w3 ⟨rfl, hb3⟩))
          all_goals exact ⟨⟨k + 1, by omega, by go_num, HU2, by (repeat (first | exact .refl _ _ | assumption | refine .drew ?_ | refine balloc ?_ _ | refine bdrewN ?_ _ | refine .setCell ?_ (by simp <;> omega) _ | refine bstep ?_ (by assumption)))⟩, by simp [intOf]; omega⟩
        · have f2 := z1 m e2
          have HU2 := Lib.hid (HU.out rfl)
          clear hdn HU z0 z1 e1 e2
          go_wp2_with (go_at_call 86; first | ((with_reducible refine (C1.out _ (by (repeat (first | exact .refl _ _ | assumption | refine .drew ?_ | refine balloc ?_ _ | refine bdrewN ?_ _ | refine .setCell ?_ (by simp <;> omega) _ | refine bstep ?_ (by assumption))))).mono ?_); clear C1; rintro e w2 ⟨rfl, hb2⟩) | ((with_reducible refine (C2.out _ (by (repeat (first | exact .refl _ _ | assumption | refine .drew ?_ | refine balloc ?_ _ | refine bdrewN ?_ _ | refine .setCell ?_ (by simp <;> omega) _ | refine bstep ?_ (by assumption))))).mono ?_); rintro e w3 ⟨rfl, hb3⟩))
          all_goals exact ⟨⟨k + 1, by omega, by go_num, HU2, by (repeat (first | exact .refl _ _ | assumption | refine .drew ?_ | refine balloc ?_ _ | refine bdrewN ?_ _ | refine .setCell ?_ (by simp <;> omega) _ | refine bstep ?_ (by assumption)))⟩, by simp [intOf]; omega⟩
        · have f2 := z1 m e2
          have HU2 := Lib.hid (HU.out rfl)
          clear hdn HU z0 z1 e1 e2
          go_wp2_with (go_at_call 86; first | ((with_reducible refine (C1.out _ (by (repeat (first | exact .refl _ _ | assumption | refine .drew ?_ | refine balloc ?_ _ | refine bdrewN ?_ _ | refine .setCell ?_ (by simp <;> omega) _ | refine bstep ?_ (by assumption))))).mono ?_); clear C1; rintro e w2 ⟨rfl, hb2⟩) | ((with_reducible refine (C2.out _ (by (repeat (first | exact .refl _ _ | assumption | refine .drew ?_ | refine balloc ?_ _ | refine bdrewN ?_ _ | refine .setCell ?_ (by simp <;> omega) _ | refine bstep ?_ (by assumption))))).mono ?_); rintro e w3 ⟨rfl, hb3⟩))
          all_goals exact ⟨⟨k + 1, by omega, by go_num, HU2, by (repeat (first | exact .refl _ _ | assumption | refine .drew ?_ | refine balloc ?_ _ | refine bdrewN ?_ _ | refine .setCell ?_ (by simp <;> omega) _ | refine bstep ?_ (by assumption)))⟩, by simp [intOf]; omega⟩
    · obtain rfl : k = 64 := by omega
      obtain rfl : V = true := by rw [HV.out]; exact HK.out
      go_wp2
      go_ret
      exact ⟨rfl, hb⟩
end Go.Proofs.YtocgkpdolgnbgaaGreatDoor
