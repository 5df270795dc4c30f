/- The reference's Matches and Choose. -/
import Derived.Test.YtdlbfjoemabfpaaGreatDoorEQZ38
namespace Go.Proofs.YtdlbfjoemabfpaaGreatDoor
open Go.RowKit Go.Sort
set_option linter.unusedVariables false
set_option linter.unusedSimpArgs false
set_option maxRecDepth 100000
theorem all_step {α : Type} (p : α → Bool) (l : List α) (k : Nat) (x : α) (hx : l[k]? = some x) (hp : p x = true) : (l.drop k).all p = (l.drop (k + 1)).all p := by
 obtain ⟨hl2, rfl⟩ := List.getElem?_eq_some_iff.1 hx
 rw [List.drop_eq_getElem_cons hl2, List.all_cons, hp, Bool.true_and]
theorem all_stop {α : Type} (p : α → Bool) (l : List α) (k : Nat) (x : α) (hx : l[k]? = some x) (hp : p x = false) : (l.drop k).all p = false := by
 obtain ⟨hl2, rfl⟩ := List.getElem?_eq_some_iff.1 hx
 rw [List.drop_eq_getElem_cons hl2, List.all_cons, hp, Bool.false_and]
end Go.Proofs.YtdlbfjoemabfpaaGreatDoor
namespace Go.Proofs.YtdlbfjoemabfpaaGreatDoor
open Go.RowKit Go.Sort
set_option linter.unusedVariables false
set_option linter.unusedSimpArgs false
set_option maxRecDepth 100000
theorem split_comma : ∀ (x : BL) (l : List BL), 44 ∉ x → (∀ y ∈ l, 44 ∉ y) → splitL 44 (x ++ Lib.joinTail [44] l) = x :: l
 | x, [], hx, _ => by simp [Lib.joinTail]; exact split_none x 44 hx
 | x, y :: l, hx, hl => by
  have e : Lib.joinTail [44] (y :: l) = 44 :: (y ++ Lib.joinTail [44] l) := by simp [Lib.joinTail]
  rw [e, split_hit x _ 44 hx, split_comma y l (hl y (by simp)) (fun z hz => hl z (by simp [hz]))]
theorem split_joined (zs : List BL) (h0 : zs ≠ []) (h : ∀ z ∈ zs, 44 ∉ z) : splitL 44 (Lib.join zs [44]) = zs := by
 cases zs with
 | nil => exact absurd rfl h0
 | cons x l => rw [Lib.join_cons]; exact split_comma x l (h x (by simp)) (fun z hz => h z (by simp [hz]))
theorem tagsR_ok {ps : List ByteArray} {T : ByteArray} (h : tagsR ps = (T, 0)) : ps.any (fun p => !isNameB p) = false ∧ (tagsL ps).length ≤ 4096 ∧ T = toB (tagsL ps) := by
 unfold tagsR at h
 split at h
 ·cases h
 ·rename_i h1
  split at h
  ·cases h
  ·rename_i h2
   refine ⟨by simpa using h1, by omega, ?_⟩
   cases h; rfl
theorem splitR_tags {ps : List ByteArray} {T : ByteArray} (h : tagsR ps = (T, 0)) : splitR T = ((Lib.compact (sortL (lists ps))).map toB, 0) := by
 obtain ⟨h1, h2, rfl⟩ := tagsR_ok h
 have tr : ∀ a b c : BL, decide (a ≤ b) = true → decide (b ≤ c) = true → decide (a ≤ c) = true := fun a b c h1 h2 => by simp only [decide_eq_true_eq] at *; exact List.le_trans h1 h2
 have tot : ∀ a b : BL, (decide (a ≤ b) || decide (b ≤ a)) = true := fun a b => by simp only [Bool.or_eq_true, decide_eq_true_eq]; exact List.le_total a b
 obtain ⟨h3, h4⟩ := compact_sorted (sortL (lists ps)) ((List.pairwise_mergeSort tr tot _).imp fun h => by simpa using h)
 have hm : ∀ a ∈ Lib.compact (sortL (lists ps)), ∃ p ∈ ps, isNameB p = true ∧ p.data.toList = a := by
  intro a ha
  rw [h4, sortL, (List.mergeSort_perm _ _).mem_iff] at ha
  obtain ⟨p, hp, rfl⟩ := List.mem_map.1 ha
  have := List.any_eq_false.1 h1 p hp
  exact ⟨p, hp, by simpa using this, rfl⟩
 have hT : tagsL ps = Lib.join (Lib.compact (sortL (lists ps))) [44] := rfl
 rw [hT] at h2 ⊢
 generalize Lib.compact (sortL (lists ps)) = zs at *
 have hdata : (toB (Lib.join zs [44])).data.toList = Lib.join zs [44] := by simp [toB]
 cases zs with
 | nil =>
  have : (toB (Lib.join ([] : List BL) [44])).toList = [] := by rw [Lib.toList_data, hdata]; rfl
  unfold splitR
  rw [this]; rfl
 | cons x l =>
  have hne : (toB (Lib.join (x :: l) [44])).toList.isEmpty = false := by
   rw [Lib.toList_data, hdata, Lib.join_cons]
   obtain ⟨p, _, hp, rfl⟩ := hm x (by simp)
   cases hx : p.data.toList with
   | nil =>
    have : p = ⟨#[]⟩ := bytes_ext (by rw [hx])
    rw [this] at hp
    exact absurd hp (by simp [isNameB, isWordB, Lib.toList_data])
   | cons a r => rfl
  have hsp : splitB 44 (toB (Lib.join (x :: l) [44])) = (x :: l).map toB := by
   show (splitL 44 (toB (Lib.join (x :: l) [44])).data.toList).map toB = _
   rw [hdata, split_joined (x :: l) (by simp) (fun z hz => by
    obtain ⟨p, _, hp, rfl⟩ := hm z hz
    exact (word_no (name_word hp)).2.2.2.2.2)]
  have htg : tagsR ((x :: l).map toB) = (toB (Lib.join (x :: l) [44]), 0) := by
   have e : tagsL ((x :: l).map toB) = Lib.join (x :: l) [44] := by
    have : lists ((x :: l).map toB) = x :: l := toB_back _
    unfold tagsL
    rw [this, tagsL_compact _ h3]
   unfold tagsR
   rw [if_neg, e, if_neg (by omega)]
   simp only [List.any_map, List.any_eq_true, not_exists]
   rintro z ⟨hz, hz2⟩
   obtain ⟨p, _, hp, rfl⟩ := hm z hz
   have : toB p.data.toList = p := bytes_ext (by simp [toB])
   simp [this, hp] at hz2
  unfold splitR
  rw [hne, if_neg (by decide), hsp, htg, if_pos ⟨rfl, by simp⟩]
theorem hasTag_tags {ps : List ByteArray} {T : ByteArray} (h : tagsR ps = (T, 0)) (p : ByteArray) (hp : p ∈ ps) : hasTagB T p = true := by
 have tr : ∀ a b c : BL, decide (a ≤ b) = true → decide (b ≤ c) = true → decide (a ≤ c) = true := fun a b c h1 h2 => by simp only [decide_eq_true_eq] at *; exact List.le_trans h1 h2
 have tot : ∀ a b : BL, (decide (a ≤ b) || decide (b ≤ a)) = true := fun a b => by simp only [Bool.or_eq_true, decide_eq_true_eq]; exact List.le_total a b
 obtain ⟨h3, h4⟩ := compact_sorted (sortL (lists ps)) ((List.pairwise_mergeSort tr tot _).imp fun h => by simpa using h)
 unfold hasTagB
 rw [splitR_tags h, Lib.containsS_iff]
 refine List.mem_map.2 ⟨p.data.toList, ?_, bytes_ext (by simp [toB])⟩
 rw [h4, sortL, (List.mergeSort_perm _ _).mem_iff]
 exact List.mem_map_of_mem hp
end Go.Proofs.YtdlbfjoemabfpaaGreatDoor
namespace Go.Proofs.YtdlbfjoemabfpaaGreatDoor
open Go.RowKit Go.Sort
set_option linter.unusedVariables false
set_option linter.unusedSimpArgs false
set_option maxRecDepth 100000
theorem hasTag_iff (T p : ByteArray) : hasTagB T p = true ↔ p ∈ (splitR T).1 := Lib.containsS_iff _ _
theorem hasTag_both {t u B p : ByteArray} (h : tagsR ((splitR t).1 ++ (splitR u).1) = (B, 0)) (hp : hasTagB t p = true) : hasTagB B p = true :=
 hasTag_tags h p (List.mem_append.2 (.inl ((hasTag_iff t p).1 hp)))
def tagZ (ps : List ByteArray) : List BL := Lib.compact (sortL (lists ps))
theorem tagZ_spec (ps : List ByteArray) : (tagZ ps).Pairwise (· < ·) ∧ ∀ a, a ∈ tagZ ps ↔ a ∈ lists ps := by
 have tr : ∀ a b c : BL, decide (a ≤ b) = true → decide (b ≤ c) = true → decide (a ≤ c) = true := fun a b c h1 h2 => by simp only [decide_eq_true_eq] at *; exact List.le_trans h1 h2
 have tot : ∀ a b : BL, (decide (a ≤ b) || decide (b ≤ a)) = true := fun a b => by simp only [Bool.or_eq_true, decide_eq_true_eq]; exact List.le_total a b
 obtain ⟨h3, h4⟩ := compact_sorted (sortL (lists ps)) ((List.pairwise_mergeSort tr tot _).imp fun h => by simpa using h)
 exact ⟨h3, fun a => by unfold tagZ; rw [h4, sortL, (List.mergeSort_perm _ _).mem_iff]⟩
theorem lt_irr (a : BL) : ¬ a < a := List.lt_irrefl a
theorem up_nodup {zs : List BL} (h : zs.Pairwise (· < ·)) : zs.Nodup := by
 unfold List.Nodup
 refine List.Pairwise.imp ?_ h
 intro a b hab e
 subst e
 exact lt_irr _ hab
theorem lens_erase (x : BL) : ∀ l : List BL, x ∈ l → Lib.lens l = x.length + Lib.lens (l.erase x)
 | [], h => by cases h
 | y :: l, h => by
  by_cases e : y = x
  ·subst e
   rw [List.erase_cons_head]
   simp [Lib.lens]
  ·rw [List.erase_cons_tail (by simpa using e)]
   have := lens_erase x l ((List.mem_cons.1 h).resolve_left (fun h => e h.symm))
   simp only [Lib.lens, List.map_cons, List.sum_cons] at this ⊢
   omega
theorem lens_sub (l named : List BL) (hn : l.Nodup) (hs : ∀ x ∈ l, x ∈ named) : Lib.lens l ≤ Lib.lens named ∧ l.length ≤ named.length := by
 induction l generalizing named with
 | nil => exact ⟨by simp [Lib.lens], by simp⟩
 | cons x l ih =>
  have hx := hs x (by simp)
  have h1 := List.length_erase_of_mem hx
  have hpos := List.length_pos_of_mem hx
  have h3 := lens_erase x named hx
  have h2 := ih (named.erase x) (List.nodup_cons.1 hn).2 (fun y hy => (List.mem_erase_of_ne (fun e => (List.nodup_cons.1 hn).1 (by rw [← e]; exact hy))).2 (hs y (by simp [hy])))
  refine ⟨?_, by rw [List.length_cons]; omega⟩
  simp only [Lib.lens, List.map_cons, List.sum_cons] at h2 h3 ⊢
  omega
theorem tags_few {ps : List ByteArray} (h : ∀ p ∈ ps, isNameB p = true) (hn : ps.length ≤ 60) : (tagsR ps).2 = 0 := by
 have h2 := join_bound (tagZ ps) (fun a ha => by
  obtain ⟨p, hp, rfl⟩ := List.mem_map.1 (((tagZ_spec ps).2 a).1 ha)
  have := (word_ne (name_word (h p hp))).2.2.2
  rw [Lib.size_eq] at this; exact this)
 have h3 := (lens_sub (tagZ ps) (lists ps) (up_nodup (tagZ_spec ps).1) (fun a ha => ((tagZ_spec ps).2 a).1 ha)).2
 rw [lists_len] at h3
 have e : (tagsL ps).length ≤ 4096 := by
  show (Lib.join (tagZ ps) [44]).length ≤ 4096
  omega
 unfold tagsR
 rw [if_neg, if_neg (by omega)]
 simp only [List.any_eq_true, not_exists]
 rintro p ⟨hp, hp2⟩
 rw [h p hp] at hp2
 exact absurd hp2 (by decide)
end Go.Proofs.YtdlbfjoemabfpaaGreatDoor
namespace Go.Proofs.YtdlbfjoemabfpaaGreatDoor
open Go.RowKit Go.Sort
set_option linter.unusedVariables false
set_option linter.unusedSimpArgs false
set_option maxRecDepth 100000
set_option maxHeartbeats 4000000 in
theorem rFewRules22_any (p : RuleM → Bool) (A : Option Addr) (n c : Nat) (L : List RuleM) (most : Int) (w : World) (hL : RulesRead w A n L) (hn : n ≤ 9223372036854775807)
  (cP : ∀ x ∈ L, ∀ W, Below w.heap.size w W → Calls Tryz.prog 27 #[x.val] W (Ret W (.bool (p x)))) :
  Calls Tryz.prog 9 #[.slice A n c, .int .i64 most] w (Ret w (.bool (L.all p && decide ((n : Int) ≤ most)))) := by
 have hl : L.length = n := hL.len
 obtain ⟨V, hV⟩ : ∃ V, V = L.all p := ⟨_, rfl⟩
 rw [← hV]
 have HP := Lib.hid cP; have HA := Lib.hid hL; have HL := Lib.hid hl; have HV := Lib.hid hV
 clear cP hL hl hV
 go_enter Tryz.func9, Tryz.ntmps9
 go_wp2
 go_loopw [5] (fun i wr => ∃ k : Nat, k ≤ n ∧ i = .int .i64 k ∧ Hid (V = (L.drop k).all p) ∧ Below w.heap.size w wr) (fun i _ => n - (intOf i).toNat)
 case atStart => exact ⟨0, by omega, rfl, Lib.hid (by rw [HV.out]; rfl), Below.refl _ _⟩
 case round =>
  obtain ⟨k, hk, rfl, HI, hb⟩ := hrel
  by_cases hlt : k < n
  ·obtain ⟨x, hx⟩ : ∃ x, L[k]? = some x := ⟨_, List.getElem?_eq_getElem (by have := HL.out; omega)⟩
   obtain ⟨_, b, o, rfl, hcell⟩ := (HA.out.keep hb).at_ hx
   have hld := rule_load wr b (o + k * 18) x hcell
   have hc := HP.out x (List.mem_of_getElem? hx) wr hb
   have hk0 : (0 : Int) ≤ (k : Int) := by omega
   have hk1 : (k : Int) < (n : Int) := by omega
   clear hcell
   have hxv : x.val = x.val := rfl
   generalize x.val = xv at hld hc
   clear hxv
   have HLD := Lib.hid hld
   clear hld
   cases hpx : p x
   ·rw [hpx] at hc
    have HC := Lib.hid hc
    have hVf : V = false := by rw [HI.out]; exact all_stop _ _ _ _ hx hpx
    subst hVf
    clear hc hx hpx
    rw [Bool.false_and]
    go_wp2_with (first | (refine wpList_load_addr rfl _ _ rfl ⟨b, o + k * 18, none⟩ xv rfl HLD.out ?_) | (go_at_call 27; refine (HC.out).mono ?_; rintro e w2 ⟨rfl, hb2⟩))
    go_ret
    exact ⟨rfl, bstep hb hb2⟩
   ·rw [hpx] at hc
    have HC := Lib.hid hc
    have hVs : V = (L.drop (k + 1)).all p := by rw [HI.out]; exact all_step _ _ _ _ hx hpx
    have HI2 := Lib.hid hVs
    clear hc hx hpx hVs
    go_wp2_with (first | (refine wpList_load_addr rfl _ _ rfl ⟨b, o + k * 18, none⟩ xv rfl HLD.out ?_) | (go_at_call 27; refine (HC.out).mono ?_; rintro e w2 ⟨rfl, hb2⟩))
    exact ⟨⟨k + 1, by omega, by go_num, HI2, bstep hb hb2⟩, by simp [intOf]; omega⟩
  ·have hVt : V = true := by rw [HI.out, List.drop_eq_nil_of_le (by have := HL.out; omega)]; rfl
   subst hVt
   rw [Bool.true_and]
   go_wp2
   go_ret
   exact ⟨rfl, hb⟩
end Go.Proofs.YtdlbfjoemabfpaaGreatDoor
namespace Go.Proofs.YtdlbfjoemabfpaaGreatDoor
open Go.RowKit Go.Sort
set_option linter.unusedVariables false
set_option linter.unusedSimpArgs false
set_option maxRecDepth 100000
set_option maxHeartbeats 4000000 in
theorem rRight22_any (p : RuleM → Bool) (A : Option Addr) (n c : Nat) (L : List RuleM) (w : World) (hL : RulesRead w A n L) (hn : n ≤ 1000000)
  (cP : ∀ x ∈ L, ∀ W, Below w.heap.size w W → Calls Tryz.prog 12 #[x.val] W (Ret W (.bool (p x)))) :
  Calls Tryz.prog 17 #[.slice A n c] w (Ret w (.bool (L.all p))) := by
 have hl : L.length = n := hL.len
 obtain ⟨V, hV⟩ : ∃ V, V = L.all p := ⟨_, rfl⟩
 rw [← hV]
 have HP := Lib.hid cP; have HA := Lib.hid hL; have HL := Lib.hid hl; have HV := Lib.hid hV
 clear cP hL hl hV
 go_enter Tryz.func17, Tryz.ntmps17
 go_wp2
 go_loopw [3] (fun i wr => ∃ k : Nat, k ≤ n ∧ i = .int .i64 k ∧ Hid (V = (L.drop k).all p) ∧ Below w.heap.size w wr) (fun i _ => n - (intOf i).toNat)
 case atStart => exact ⟨0, by omega, rfl, Lib.hid (by rw [HV.out]; rfl), Below.refl _ _⟩
 case round =>
  obtain ⟨k, hk, rfl, HI, hb⟩ := hrel
  by_cases hlt : k < n
  ·obtain ⟨x, hx⟩ : ∃ x, L[k]? = some x := ⟨_, List.getElem?_eq_getElem (by have := HL.out; omega)⟩
   obtain ⟨_, b, o, rfl, hcell⟩ := (HA.out.keep hb).at_ hx
   have hld := rule_load wr b (o + k * 18) x hcell
   have hc := HP.out x (List.mem_of_getElem? hx) wr hb
   have hk0 : (0 : Int) ≤ (k : Int) := by omega
   have hk1 : (k : Int) < (n : Int) := by omega
   clear hcell
   have hxv : x.val = x.val := rfl
   generalize x.val = xv at hld hc
   clear hxv
   have HLD := Lib.hid hld
   clear hld
   cases hpx : p x
   ·rw [hpx] at hc
    have HC := Lib.hid hc
    have hVf : V = false := by rw [HI.out]; exact all_stop _ _ _ _ hx hpx
    subst hVf
    clear hc hx hpx
    go_wp2_with (first | (refine wpList_load_addr rfl _ _ rfl ⟨b, o + k * 18, none⟩ xv rfl HLD.out ?_) | (go_at_call 12; refine (HC.out).mono ?_; rintro e w2 ⟨rfl, hb2⟩))
    go_ret
    exact ⟨rfl, bstep hb hb2⟩
   ·rw [hpx] at hc
    have HC := Lib.hid hc
    have hVs : V = (L.drop (k + 1)).all p := by rw [HI.out]; exact all_step _ _ _ _ hx hpx
    have HI2 := Lib.hid hVs
    clear hc hx hpx hVs
    go_wp2_with (first | (refine wpList_load_addr rfl _ _ rfl ⟨b, o + k * 18, none⟩ xv rfl HLD.out ?_) | (go_at_call 12; refine (HC.out).mono ?_; rintro e w2 ⟨rfl, hb2⟩))
    exact ⟨⟨k + 1, by omega, by go_num, HI2, bstep hb hb2⟩, by simp [intOf]; omega⟩
  ·have hVt : V = true := by rw [HI.out, List.drop_eq_nil_of_le (by have := HL.out; omega)]; rfl
   subst hVt
   go_wp2
   go_ret
   exact ⟨rfl, hb⟩
end Go.Proofs.YtdlbfjoemabfpaaGreatDoor
namespace Go.Proofs.YtdlbfjoemabfpaaGreatDoor
open Go.RowKit Go.Sort
set_option linter.unusedVariables false
set_option linter.unusedSimpArgs false
set_option maxRecDepth 100000
theorem possX_len (a : ByteArray) : ∀ (L : List RuleM) (k : Nat), (possX a L k).length ≤ L.length
 | [], _ => by simp [possX]
 | x :: l, k => by
  have ih := possX_len a l (k + 1)
  unfold possX
  split
  ·split
   ·simp
   ·simp; omega
  ·simp; omega
theorem few_all {L : List RuleM} {n : Nat} {w : World} {A : Option Addr} (hL : RulesRead w A n L) (h : (L.all (fun x => fewR x.r) && decide ((n : Int) ≤ 12)) = true) : (∀ x ∈ L, RuleFits x.r) ∧ n ≤ 12 ∧ RulesFit L := by
 rw [Bool.and_eq_true, decide_eq_true_eq, List.all_eq_true] at h
 have hf : ∀ x ∈ L, RuleFits x.r := fun x hx => fewR_fits (h.1 x hx)
 refine ⟨hf, by omega, ⟨by have := hL.len; omega, fun x hx => by have := (hf x hx).pat; omega, fun x hx => by have := (hf x hx).nt; omega⟩⟩
structure RuS (g : Nat) (X : Array Value) (w0 : World) (W : World) : Prop where
 x : Box1 W g 33 X
 b : Below w0.heap.size w0 W
theorem RuS.keep {g : Nat} {X : Array Value} {w0 W W' : World} (h : RuS g X w0 W) (hb : Below W.heap.size W W') : RuS g X w0 W' := ⟨h.x.keep hb, bstep h.b hb⟩
end Go.Proofs.YtdlbfjoemabfpaaGreatDoor
namespace Go.Proofs.YtdlbfjoemabfpaaGreatDoor
open Go.RowKit Go.Sort
set_option linter.unusedVariables false
set_option linter.unusedSimpArgs false
set_option maxRecDepth 100000
theorem idxA_le {α : Type} (p : α → Bool) : ∀ (l : List α) (b k : Nat) (x : α), l[k]? = some x → p x = true → 0 ≤ idxA p l b ∧ idxA p l b ≤ ((b + k : Nat) : Int)
 | [], _, k, _, h, _ => by simp at h
 | y :: l, b, 0, x, h, hp => by
  obtain rfl : y = x := by simpa using h
  unfold idxA
  rw [if_pos hp]
  omega
 | y :: l, b, k + 1, x, h, hp => by
  have ih := idxA_le p l (b + 1) k x (by simpa using h) hp
  unfold idxA
  split <;> omega
theorem idxA_ge {α : Type} (p : α → Bool) : ∀ (l : List α) (b : Nat), idxA p l b = -1 ∨ (b : Int) ≤ idxA p l b
 | [], _ => .inl rfl
 | y :: l, b => by
  have ih := idxA_ge p l (b + 1)
  unfold idxA
  split
  ·right; omega
  ·rcases ih with h | h
   ·exact .inl h
   ·right; omega
theorem idxA_at {α : Type} (p : α → Bool) : ∀ (l : List α) (b k : Nat) (x : α), l[k]? = some x → idxA p l b = ((b + k : Nat) : Int) → p x = true
 | [], _, k, _, h, _ => by simp at h
 | y :: l, b, 0, x, h, hi => by
  obtain rfl : y = x := by simpa using h
  unfold idxA at hi
  split at hi
  ·assumption
  ·have := idxA_ge p l (b + 1)
   omega
 | y :: l, b, k + 1, x, h, hi => by
  unfold idxA at hi
  split at hi
  ·omega
  ·exact idxA_at p l (b + 1) k x (by simpa using h) (by rw [hi]; omega)
theorem poss_mem (a : ByteArray) : ∀ (l : List RuleM) (b k : Nat), k ∈ possX a l b → ∃ i x, k = b + i ∧ l[i]? = some x ∧ matchB x.r.pat a = true
 | [], _, _, h => by cases h
 | y :: l, b, k, h => by
  unfold possX at h
  by_cases hm : matchB y.r.pat a = true
  ·rw [if_pos hm] at h
   by_cases ht : y.r.tags.length = 0
   ·rw [if_pos ht, List.mem_singleton] at h
    exact ⟨0, y, by omega, rfl, hm⟩
   ·rw [if_neg ht] at h
    rcases List.mem_cons.1 h with h | h
    ·exact ⟨0, y, by omega, rfl, hm⟩
    ·obtain ⟨i, x, e, hx, hxm⟩ := poss_mem a l (b + 1) k h
     exact ⟨i + 1, x, by omega, by simpa using hx, hxm⟩
  ·rw [if_neg hm] at h
   obtain ⟨i, x, e, hx, hxm⟩ := poss_mem a l (b + 1) k h
   exact ⟨i + 1, x, by omega, by simpa using hx, hxm⟩
theorem poss_up (a : ByteArray) : ∀ (l : List RuleM) (b : Nat), (possX a l b).Pairwise (· < ·)
 | [], _ => List.Pairwise.nil
 | y :: l, b => by
  have ih := poss_up a l (b + 1)
  unfold possX
  split
  ·split
   ·exact List.pairwise_singleton _ _
   ·refine List.pairwise_cons.2 ⟨fun k hk => ?_, ih⟩
    obtain ⟨i, x, e, _⟩ := poss_mem a l (b + 1) k hk
    omega
  ·exact ih
theorem poss_step {a : ByteArray} {l : List RuleM} {b n k j : Nat} (h1 : (possX a l b)[n]? = some k) (h2 : (possX a l b)[n + 1]? = some j) : k < j := by
 obtain ⟨l1, e1⟩ := List.getElem?_eq_some_iff.1 h1
 obtain ⟨l2, e2⟩ := List.getElem?_eq_some_iff.1 h2
 have := List.pairwise_iff_getElem.1 (poss_up a l b) n (n + 1) l1 l2 (by omega)
 omega
theorem choose_poss (a t : ByteArray) : ∀ (l : List RuleM) (b : Nat), idxA (fun x => mtX x.r a t) l b = -1 ∨ ∃ k ∈ possX a l b, (k : Int) = idxA (fun x => mtX x.r a t) l b
 | [], _ => .inl rfl
 | y :: l, b => by
  have ih := choose_poss a t l (b + 1)
  unfold idxA possX
  by_cases hm : matchB y.r.pat a = true
  ·rw [if_pos hm]
   by_cases hx : mtX y.r a t = true
   ·rw [if_pos hx]
    right
    split
    ·exact ⟨b, by simp, rfl⟩
    ·exact ⟨b, by simp, rfl⟩
   ·rw [if_neg hx]
    by_cases ht : y.r.tags.length = 0
    ·exfalso
     refine hx ?_
     unfold mtX
     rw [hm, List.eq_nil_of_length_eq_zero ht]
     rfl
    ·rw [if_neg ht]
     rcases ih with h | ⟨k, hk, e⟩
     ·exact .inl h
     ·exact .inr ⟨k, List.mem_cons_of_mem _ hk, e⟩
  ·rw [if_neg hm]
   have hx : ¬ mtX y.r a t = true := by
    unfold mtX
    rw [Bool.and_eq_true]
    exact fun h => hm h.1
   rw [if_neg hx]
   exact ih
theorem tags_rule {r : RuleV} (h : RuleOk r) (hn : r.tags.length ≤ 60) : ∃ T, tagsR r.tags = (T, 0) ∧ T.size ≤ 4096 ∧ r.tags.all (hasTagB T) = true := by
 have hname : ∀ p ∈ r.tags, isNameB p = true := by
  have ht := h.tags
  unfold namesA at ht
  rw [List.all_eq_true] at ht
  intro p hp
  obtain ⟨i, hi, rfl⟩ := List.getElem_of_mem hp
  have := ht i (List.mem_range.2 hi)
  unfold okK at this
  rw [List.getElem?_eq_getElem hi] at this
  simp only [Bool.and_eq_true] at this
  exact this.1
 have h2 := tags_few hname hn
 obtain ⟨T, e⟩ : ∃ T, tagsR r.tags = (T, 0) := ⟨(tagsR r.tags).1, Prod.ext rfl h2⟩
 refine ⟨T, e, ?_, ?_⟩
 ·obtain ⟨_, h3, rfl⟩ := tagsR_ok e
  rw [Lib.size_eq]
  simpa [toB] using h3
 ·rw [List.all_eq_true]
  exact fun p hp => hasTag_tags e p hp
theorem choose_may {L : List RuleM} {a T : ByteArray} {k : Nat} {x : RuleM} (hx : L[k]? = some x) (hm : matchB x.r.pat a = true) (ht : x.r.tags.all (hasTagB T) = true) : 0 ≤ chooseX L a T ∧ chooseX L a T ≤ (k : Int) := by
 have := idxA_le (fun x => mtX x.r a T) L 0 k x hx (by unfold mtX; rw [hm, ht]; rfl)
 rw [Nat.zero_add] at this
 exact this
theorem choose_first {L : List RuleM} {a t : ByteArray} {k : Nat} {x : RuleM} (hx : L[k]? = some x) : (mtX x.r a t = true → 0 ≤ chooseX L a t ∧ chooseX L a t ≤ (k : Int)) ∧ ((k : Int) = chooseX L a t → mtX x.r a t = true) := by
 refine ⟨fun h => ?_, fun h => ?_⟩
 ·have := idxA_le (fun x => mtX x.r a t) L 0 k x hx h
  rw [Nat.zero_add] at this
  exact this
 ·exact idxA_at (fun x => mtX x.r a t) L 0 k x hx (by rw [Nat.zero_add]; exact h.symm)
theorem mt_both {r : RuleV} {a t u B : ByteArray} (h : tagsR ((splitR t).1 ++ (splitR u).1) = (B, 0)) (hm : mtX r a t = true) : mtX r a B = true := by
 unfold mtX at hm ⊢
 rw [Bool.and_eq_true, List.all_eq_true] at hm ⊢
 exact ⟨hm.1, fun p hp => hasTag_both h (hm.2 p hp)⟩
end Go.Proofs.YtdlbfjoemabfpaaGreatDoor
namespace Go.Proofs.YtdlbfjoemabfpaaGreatDoor
open Go.RowKit Go.Sort
set_option linter.unusedVariables false
set_option linter.unusedSimpArgs false
set_option maxRecDepth 100000
section
variable {P : Program}
theorem grown_self (w : World) (r : Option Nat) : w.grownBy w r := ⟨rfl, rfl, rfl, Nat.le_refl _, fun _ _ _ => rfl⟩
theorem wpList_append_reads {ops : Array Oper} {rest : List Oper} {o : Oper} {a : Act} {Q : Exit → Act → World → Prop} (w : World) (hgd : o.guard = none) (s x : Operand) (t : TypeId)
  (ho : o.op = .call { callee := .builtin .append, args := #[s, x], argTypes := #[t, t] })
  (base : Nat) (e : TypeId) (i : TypeInfo) (z : Value) (bytes : Nat) (ht : P.underlying t = some (.slice e)) (hi : P.info? e = some i) (hz : i.zero = some z)
  (hsize : i.size = 1) (hby : i.bytes = bytes) (hzs : z.cells.size = 1)
  (v : Value) (n : Nat) (xs : List Value) (hs : a.eval s = v) (hown : w.ownsRow base e 1 v n xs)
  (A : Option Addr) (m c : Nat) (ys : List Value) (hx : a.eval x = .slice A m c) (hR : Reads w 1 A m ys) (h1 : ∀ u ∈ ys, u.oneCell' = true)
  (h63 : n + m ≤ maxLen) (hbytes : (n + m) * bytes ≤ 140737488355328) (hbase : base ≤ w.heap.size)
  (h : ∀ v' w', w'.ownsRow base e 1 v' (n + m) (xs ++ ys) → w.grownBy w' v.ownBlock → wpList P ops Q rest (a.put o.dst v') w') : wpList P ops Q (o :: rest) a w := by
 rcases Nat.eq_zero_or_pos m with h0 | h0
 ·subst h0
  have hys : ys = [] := List.eq_nil_of_length_eq_zero (by have := hR.1; omega)
  subst hys
  have hh := h v w (by rw [List.append_nil]; exact hown) (grown_self w _)
  obtain ⟨A0, k0, c0, hv, hle⟩ : ∃ A0 k0 c0, v = .slice A0 k0 c0 ∧ k0 ≤ c0 := by
   rcases hown.2 with ⟨e1, _⟩ | ⟨g, cap, cur, e1, _, _, hle, _⟩
   ·exact ⟨none, 0, 0, e1, Nat.le_refl _⟩
   ·exact ⟨_, n, cap, e1, hle⟩
  have hr := run_append_nothing w t t o.type e i ht hi A0 k0 c0 hle (.slice A 0 c) ⟨.inl ⟨e, ht⟩, fun w' => by simp [Builtin.lenOf], by cases A <;> simp [Builtin.firstCells, loadCells, loadCellsFrom], by cases A <;> simp [Builtin.firstCells, loadCells, loadCellsFrom], by simp, by simp⟩
  refine wpList_plain hgd fun K hK => ?_
  unfold Oper.wp execOp
  simp only [ho, resolve, invoke, builtin, Sem.run_bind, Sem.run_pure, Result.andThen_ok, List.map_toArray, List.map_cons, List.map_nil, hs, hx, hv, hr]
  rw [← hv]
  exact hK _ _ hh
 ·obtain ⟨pb, po, rfl, hcell⟩ := hR.2 h0
  refine wpList_append_own w hgd s x t ho base e i z 1 bytes ht hi hz hsize hby hzs (by decide) v n xs hs hown ⟨pb, po, none⟩ m c ys hx hR.1 (fun j u hj => ?_) h1 h63 hbytes hbase (fun v' w' h2 h3 _ => h v' w' h2 h3)
  have := hcell j u hj
  rw [show (⟨pb, po, none⟩ : Addr).add j = ⟨pb, po + j, none⟩ by unfold Addr.add; split <;> simp_all]
  exact this
end
end Go.Proofs.YtdlbfjoemabfpaaGreatDoor
