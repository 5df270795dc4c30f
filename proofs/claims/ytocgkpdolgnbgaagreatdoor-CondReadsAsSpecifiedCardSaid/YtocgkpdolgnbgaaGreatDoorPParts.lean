/- The parts of a pattern: what has, covers, with, without, String, meet and partOf return. -/
import Derived.Test.YtocgkpdolgnbgaaGreatDoorPBase
import Derived.Lib.IndexBytes
import Derived.Deep.RegionWith
import Derived.Test.YtocgkpdolgnbgaaGreatDoorProg
import Derived.WalkKit
import Derived.WalkSpells
import Derived.WalkLawsBesides
import Derived.Below
import Derived.Deep.QuietTactic
import Derived.BigQuiet
import Derived.Lib.QuietBelow
import Derived.Lib.Strings
import Derived.Lib.Hide
import Derived.Deep.RegionHeld3
namespace Go.Proofs.YtocgkpdolgnbgaaGreatDoor
open Go.RowKit Go.Sort
set_option linter.unusedVariables false
set_option linter.unusedSimpArgs false
theorem hasSuffix_if (s t : ByteArray) : Lib.hasSuffix s.data.toList t.data.toList = (decide (t.size ≤ s.size) && ((s.extract (s.size - t.size) s.size).toList == t.toList)) := by
  unfold Lib.hasSuffix
  rw [Lib.toList_data, Lib.toList_data, Lib.extract_data, Lib.size_eq, Lib.size_eq, Bool.eq_iff_iff]
  simp only [List.isSuffixOf_iff_suffix, Bool.and_eq_true, decide_eq_true_eq, beq_iff_eq]
  constructor
  · intro h
    have hl := h.length_le
    refine ⟨hl, ?_⟩
    rw [List.take_of_length_le (by simp)]
    obtain ⟨p, hp⟩ := h
    rw [← hp]; simp
  · rintro ⟨_, h⟩
    rw [← h]
    simp [List.take_of_length_le]
    exact List.drop_suffix _ _
set_option maxHeartbeats 1000000 in
theorem hasSuffix_any (s t : ByteArray) (w : World) (hs : s.size ≤ 4294967281) (ht : t.size ≤ 4294967281) :
    Calls Tryz.prog 135 #[.string s, .string t] w (Ret w (.bool (Lib.hasSuffix s.data.toList t.data.toList))) := by
  by_cases h : (t.size : Int) ≤ s.size
  · go_enter Tryz.func135, Tryz.ntmps135
    go_wp2
    go_ret
    exact ⟨ret_bool (by rw [hasSuffix_if]; simp [show t.size ≤ s.size by omega]), by (repeat (first | exact .refl _ _ | assumption | refine .drew ?_ | refine balloc ?_ _ | refine bdrewN ?_ _ | refine .setCell ?_ (by simp <;> omega) _ | refine bstep ?_ (by assumption)))⟩
  · go_enter Tryz.func135, Tryz.ntmps135
    go_wp2
    go_ret
    exact ⟨ret_bool (by rw [hasSuffix_if]; simp [show ¬ t.size ≤ s.size by omega]), by (repeat (first | exact .refl _ _ | assumption | refine .drew ?_ | refine balloc ?_ _ | refine bdrewN ?_ _ | refine .setCell ?_ (by simp <;> omega) _ | refine bstep ?_ (by assumption)))⟩
structure Part where
  kind : Nat
  text : ByteArray
def hasP (k : Nat) (t s : ByteArray) : Bool := if k = 0 then t.toList == s.toList else if k = 1 then decide (t.size < s.size) && Lib.hasSuffix s.data.toList t.data.toList else true
def coversP (k : Nat) (t : ByteArray) (k2 : Nat) (t2 : ByteArray) : Bool :=
  if k2 = 0 then hasP k t t2 else if k2 = 1 then k == 2 || (k == 1 && Lib.hasSuffix t2.data.toList t.data.toList) else k == 2
def withP (k : Nat) (t b : ByteArray) : ByteArray := if k = 0 then t else if k = 1 then b ++ t else b
set_option maxHeartbeats 1000000 in
theorem has_any (k : Nat) (t s : ByteArray) (w : World) (hs : s.size ≤ 4294967281) (ht : t.size ≤ 4294967281) (hk : k ≤ 2) :
    Calls Tryz.prog 122 #[.agg #[.int .i64 k, .string t], .string s] w (Ret w (.bool (hasP k t s))) := by
  have hk' : k = 0 ∨ k = 1 ∨ k = 2 := by omega
  rcases hk' with rfl | rfl | rfl
  · go_enter Tryz.func122, Tryz.ntmps122
    go_wp2
    go_ret
    exact ⟨ret_bool (by simp [hasP]), by (repeat (first | exact .refl _ _ | assumption | refine .drew ?_ | refine balloc ?_ _ | refine bdrewN ?_ _ | refine .setCell ?_ (by simp <;> omega) _ | refine bstep ?_ (by assumption)))⟩
  · by_cases h : (t.size : Int) < s.size
    · go_enter Tryz.func122, Tryz.ntmps122
      go_wp2_with (go_at_call 135; refine (hasSuffix_any s t _ hs ht).mono ?_; rintro e w1 ⟨rfl, hb1⟩)
      go_ret
      exact ⟨ret_bool (by simp [hasP]; omega), by (repeat (first | exact .refl _ _ | assumption | refine .drew ?_ | refine balloc ?_ _ | refine bdrewN ?_ _ | refine .setCell ?_ (by simp <;> omega) _ | refine bstep ?_ (by assumption)))⟩
    · go_enter Tryz.func122, Tryz.ntmps122
      go_wp2
      go_ret
      exact ⟨ret_bool (by simp [hasP]; omega), by (repeat (first | exact .refl _ _ | assumption | refine .drew ?_ | refine balloc ?_ _ | refine bdrewN ?_ _ | refine .setCell ?_ (by simp <;> omega) _ | refine bstep ?_ (by assumption)))⟩
  · go_enter Tryz.func122, Tryz.ntmps122
    go_wp2
    go_ret
    exact ⟨ret_bool (by simp [hasP]), by (repeat (first | exact .refl _ _ | assumption | refine .drew ?_ | refine balloc ?_ _ | refine bdrewN ?_ _ | refine .setCell ?_ (by simp <;> omega) _ | refine bstep ?_ (by assumption)))⟩
set_option maxHeartbeats 2000000 in
theorem covers_any (k k2 : Nat) (t t2 : ByteArray) (w : World) (ht2 : t2.size ≤ 4294967281) (ht : t.size ≤ 4294967281) (hk : k ≤ 2) (hk2 : k2 ≤ 2) :
    Calls Tryz.prog 100 #[.agg #[.int .i64 k, .string t], .agg #[.int .i64 k2, .string t2]] w (Ret w (.bool (coversP k t k2 t2))) := by
  have hk' : k2 = 0 ∨ k2 = 1 ∨ k2 = 2 := by omega
  rcases hk' with rfl | rfl | rfl
  · go_enter Tryz.func100, Tryz.ntmps100
    go_wp2_with (go_at_call 122; refine (has_any k t t2 _ ht2 ht hk).mono ?_; rintro e w1 ⟨rfl, hb1⟩)
    go_ret
    exact ⟨ret_bool (by simp [coversP]), by (repeat (first | exact .refl _ _ | assumption | refine .drew ?_ | refine balloc ?_ _ | refine bdrewN ?_ _ | refine .setCell ?_ (by simp <;> omega) _ | refine bstep ?_ (by assumption)))⟩
  · have hk'' : k = 0 ∨ k = 1 ∨ k = 2 := by omega
    rcases hk'' with rfl | rfl | rfl
    · go_enter Tryz.func100, Tryz.ntmps100
      go_wp2
      go_ret
      exact ⟨ret_bool (by simp [coversP]), by (repeat (first | exact .refl _ _ | assumption | refine .drew ?_ | refine balloc ?_ _ | refine bdrewN ?_ _ | refine .setCell ?_ (by simp <;> omega) _ | refine bstep ?_ (by assumption)))⟩
    · go_enter Tryz.func100, Tryz.ntmps100
      go_wp2_with (go_at_call 135; refine (hasSuffix_any t2 t _ ht2 ht).mono ?_; rintro e w1 ⟨rfl, hb1⟩)
      go_ret
      exact ⟨ret_bool (by simp [coversP]), by (repeat (first | exact .refl _ _ | assumption | refine .drew ?_ | refine balloc ?_ _ | refine bdrewN ?_ _ | refine .setCell ?_ (by simp <;> omega) _ | refine bstep ?_ (by assumption)))⟩
    · go_enter Tryz.func100, Tryz.ntmps100
      go_wp2
      go_ret
      exact ⟨ret_bool (by simp [coversP]), by (repeat (first | exact .refl _ _ | assumption | refine .drew ?_ | refine balloc ?_ _ | refine bdrewN ?_ _ | refine .setCell ?_ (by simp <;> omega) _ | refine bstep ?_ (by assumption)))⟩
  · have hk'' : k = 0 ∨ k = 1 ∨ k = 2 := by omega
    rcases hk'' with rfl | rfl | rfl
    all_goals
      go_enter Tryz.func100, Tryz.ntmps100
      go_wp2
      go_ret
      exact ⟨ret_bool (by simp [coversP]), by (repeat (first | exact .refl _ _ | assumption | refine .drew ?_ | refine balloc ?_ _ | refine bdrewN ?_ _ | refine .setCell ?_ (by simp <;> omega) _ | refine bstep ?_ (by assumption)))⟩
set_option maxHeartbeats 1000000 in
theorem with_any (k : Nat) (t b : ByteArray) (w : World) (hs : b.size ≤ 4294967281) (ht : t.size ≤ 4294967281) (hk : k ≤ 2) :
    Calls Tryz.prog 98 #[.agg #[.int .i64 k, .string t], .string b] w (Ret w (.string (withP k t b))) := by
  have hk' : k = 0 ∨ k = 1 ∨ k = 2 := by omega
  rcases hk' with rfl | rfl | rfl
  all_goals
    go_enter Tryz.func98, Tryz.ntmps98
    go_wp2
    go_ret
    exact ⟨ret_str (by simp [withP]), by (repeat (first | exact .refl _ _ | assumption | refine .drew ?_ | refine balloc ?_ _ | refine bdrewN ?_ _ | refine .setCell ?_ (by simp <;> omega) _ | refine bstep ?_ (by assumption)))⟩
def withoutP (k : Nat) (t : ByteArray) (k2 : Nat) (t2 : ByteArray) : ByteArray := if hasP k2 t2 (withP k t ⟨#[97]⟩) then withP k t ⟨#[98]⟩ else withP k t ⟨#[97]⟩
theorem withP_size (k : Nat) (t b : ByteArray) : (withP k t b).size ≤ t.size + b.size := by
  unfold withP; split <;> (try split) <;> simp <;> omega
set_option maxHeartbeats 1000000 in
theorem without_any (k k2 : Nat) (t t2 : ByteArray) (w : World) (ht2 : t2.size ≤ 4294967200) (ht : t.size ≤ 4294967200) (hk : k ≤ 2) (hk2 : k2 ≤ 2) :
    Calls Tryz.prog 102 #[.agg #[.int .i64 k, .string t], .agg #[.int .i64 k2, .string t2]] w (Ret w (.string (withoutP k t k2 t2))) := by
  have h1 := withP_size k t ⟨#[97]⟩
  have h2 : (⟨#[97]⟩ : ByteArray).size = 1 := rfl
  obtain ⟨s1, e1⟩ : ∃ s1, s1 = withP k t ⟨#[97]⟩ := ⟨_, rfl⟩
  have hsz : s1.size ≤ 4294967281 := by rw [e1]; omega
  have c1 : ∀ W, Calls Tryz.prog 98 #[.agg #[.int .i64 k, .string t], .string ⟨#[97]⟩] W (Ret W (.string s1)) := fun W => e1 ▸ with_any k t _ W (by decide) (by omega) hk
  have c2 : ∀ W, Calls Tryz.prog 98 #[.agg #[.int .i64 k, .string t], .string ⟨#[98]⟩] W (Ret W (.string (withP k t ⟨#[98]⟩))) := fun W => with_any k t _ W (by decide) (by omega) hk
  have c3 : ∀ W, Calls Tryz.prog 122 #[.agg #[.int .i64 k2, .string t2], .string s1] W (Ret W (.bool (hasP k2 t2 s1))) := fun W => has_any k2 t2 s1 W hsz (by omega) hk2
  clear h1 h2 hsz
  have H1 := Lib.hid c1; have H2 := Lib.hid c2; have H3 := Lib.hid c3; have E1 := Lib.hid e1
  clear c1 c2 c3 e1
  have hw : withoutP k t k2 t2 = if hasP k2 t2 s1 then withP k t ⟨#[98]⟩ else s1 := by rw [E1.out]; rfl
  rw [hw]
  clear hw E1
  cases hh : hasP k2 t2 s1
  all_goals
    rw [hh] at H3
    clear hh
    go_enter Tryz.func102, Tryz.ntmps102
    go_wp2_with fail
    refine (H1.out _).mono ?_
    rintro e w1 ⟨rfl, hb1⟩
    obtain ⟨hc1, hf1⟩ := bcell hb1; have hz1_0 : w.heap.size < w1.heap.size := (by have := hb1.size; (try simp at this); omega); have hz1_1 : w.heap.size + 1 < w1.heap.size := (by have := hb1.size; (try simp at this); omega)
    go_wp2_with fail
    refine (H3.out _).mono ?_
    rintro e w2 ⟨rfl, hb2⟩
    obtain ⟨hc2, hf2⟩ := bcell hb2; have hz2_0 : w.heap.size < w2.heap.size := (by have := hb2.size; (try simp at this); omega); have hz2_1 : w.heap.size + 1 < w2.heap.size := (by have := hb2.size; (try simp at this); omega)
    go_wp2_with fail
  · go_ret
    exact ⟨rfl, by (repeat (first | exact .refl _ _ | assumption | refine .drew ?_ | refine balloc ?_ _ | refine bdrewN ?_ _ | refine .setCell ?_ (by simp <;> omega) _ | refine bstep ?_ (by assumption)))⟩
  · refine (H2.out _).mono ?_
    rintro e w3 ⟨rfl, hb3⟩
    go_wp2_with fail
    go_ret
    exact ⟨rfl, by (repeat (first | exact .refl _ _ | assumption | refine .drew ?_ | refine balloc ?_ _ | refine bdrewN ?_ _ | refine .setCell ?_ (by simp <;> omega) _ | refine bstep ?_ (by assumption)))⟩
def stringP (k : Nat) (t : ByteArray) : ByteArray := if k = 0 then t else ⟨#[42]⟩ ++ t
set_option maxHeartbeats 1000000 in
theorem stringP_any (k : Nat) (t : ByteArray) (w : World) (ht : t.size ≤ 4294967200) (hk : k ≤ 2) :
    Calls Tryz.prog 130 #[.agg #[.int .i64 k, .string t]] w (Ret w (.string (stringP k t))) := by
  have hk' : k = 0 ∨ k = 1 ∨ k = 2 := by omega
  rcases hk' with rfl | rfl | rfl
  all_goals
    go_enter Tryz.func130, Tryz.ntmps130
    go_wp2
    go_ret
    exact ⟨ret_str (by simp [stringP]), by (repeat (first | exact .refl _ _ | assumption | refine .drew ?_ | refine balloc ?_ _ | refine bdrewN ?_ _ | refine .setCell ?_ (by simp <;> omega) _ | refine bstep ?_ (by assumption)))⟩
def Part.val (p : Part) : Value := .agg #[.int .i64 p.kind, .string p.text]
def partOfP (s : ByteArray) : Part :=
  if s.size < 1 then ⟨0, s⟩ else if !((s.extract 0 1).toList == [42]) then ⟨0, s⟩ else if !((s.extract 1 s.size).toList.isEmpty) then ⟨1, s.extract 1 s.size⟩ else ⟨2, ⟨#[]⟩⟩
set_option maxHeartbeats 2000000 in
theorem partOf_any (s : ByteArray) (w : World) (hs : s.size ≤ 4294967200) :
    Calls Tryz.prog 132 #[.string s] w (Ret w (partOfP s).val) := by
  by_cases h1 : (1 : Int) ≤ s.size
  · have e0 : ¬ s.size < 1 := by omega
    cases h2 : ((s.extract 0 1).toList == [42])
    · have e1 : (partOfP s).val = .agg #[.int .i64 0, .string s] := by simp [partOfP, Part.val, e0, h2]
      rw [e1]
      clear e1
      go_enter Tryz.func132, Tryz.ntmps132
      go_wp2
      exact bodyPost_ret (v := .agg #[.int .i64 0, .string s]) (by simp [results, Tryz.results132, go_sem]) rfl ⟨rfl, by (repeat (first | exact .refl _ _ | assumption | refine .drew ?_ | refine balloc ?_ _ | refine bdrewN ?_ _ | refine .setCell ?_ (by simp <;> omega) _ | refine bstep ?_ (by assumption)))⟩
    · cases h3 : (s.extract 1 s.size).toList.isEmpty
      · have e1 : (partOfP s).val = .agg #[.int .i64 1, .string (s.extract 1 s.size)] := by simp [partOfP, Part.val, e0, h2, h3]
        rw [e1]
        clear e1
        go_enter Tryz.func132, Tryz.ntmps132
        go_wp2
        exact bodyPost_ret (v := .agg #[.int .i64 1, .string (s.extract 1 s.size)]) (by simp [results, Tryz.results132, go_sem]) rfl ⟨rfl, by (repeat (first | exact .refl _ _ | assumption | refine .drew ?_ | refine balloc ?_ _ | refine bdrewN ?_ _ | refine .setCell ?_ (by simp <;> omega) _ | refine bstep ?_ (by assumption)))⟩
      · have e1 : (partOfP s).val = .agg #[.int .i64 2, .string ⟨#[]⟩] := by simp [partOfP, Part.val, e0, h2, h3]
        rw [e1]
        clear e1
        go_enter Tryz.func132, Tryz.ntmps132
        go_wp2
        exact bodyPost_ret (v := .agg #[.int .i64 2, .string ⟨#[]⟩]) (by simp [results, Tryz.results132, go_sem]) rfl ⟨rfl, by (repeat (first | exact .refl _ _ | assumption | refine .drew ?_ | refine balloc ?_ _ | refine bdrewN ?_ _ | refine .setCell ?_ (by simp <;> omega) _ | refine bstep ?_ (by assumption)))⟩
  · have e1 : (partOfP s).val = .agg #[.int .i64 0, .string s] := by simp [partOfP, Part.val, show s.size < 1 by omega]
    rw [e1]
    clear e1
    go_enter Tryz.func132, Tryz.ntmps132
    go_wp2
    exact bodyPost_ret (v := .agg #[.int .i64 0, .string s]) (by simp [results, Tryz.results132, go_sem]) rfl ⟨rfl, by (repeat (first | exact .refl _ _ | assumption | refine .drew ?_ | refine balloc ?_ _ | refine bdrewN ?_ _ | refine .setCell ?_ (by simp <;> omega) _ | refine bstep ?_ (by assumption)))⟩
def meetP (p q : Part) : Part := if coversP p.kind p.text q.kind q.text then q else p
def meetsP (p q : Part) : Bool := coversP p.kind p.text q.kind q.text || coversP q.kind q.text p.kind p.text
set_option maxHeartbeats 2000000 in
theorem meetP_any (k k2 : Nat) (t t2 : ByteArray) (w : World) (ht2 : t2.size ≤ 4294967281) (ht : t.size ≤ 4294967281) (hk : k ≤ 2) (hk2 : k2 ≤ 2) :
    Calls Tryz.prog 168 #[.agg #[.int .i64 k, .string t], .agg #[.int .i64 k2, .string t2]] w (Ret w (.tuple #[(meetP ⟨k, t⟩ ⟨k2, t2⟩).val, .bool (meetsP ⟨k, t⟩ ⟨k2, t2⟩)])) := by
  have c1 : ∀ W, Calls Tryz.prog 100 #[.agg #[.int .i64 k, .string t], .agg #[.int .i64 k2, .string t2]] W (Ret W (.bool (coversP k t k2 t2))) := fun W => covers_any k k2 t t2 W ht2 ht hk hk2
  have c2 : ∀ W, Calls Tryz.prog 100 #[.agg #[.int .i64 k2, .string t2], .agg #[.int .i64 k, .string t]] W (Ret W (.bool (coversP k2 t2 k t))) := fun W => covers_any k2 k t2 t W ht ht2 hk2 hk
  have H1 := Lib.hid c1; have H2 := Lib.hid c2
  clear c1 c2
  unfold meetP meetsP
  dsimp only
  cases hh : coversP k t k2 t2
  all_goals
    rw [hh] at H1
    simp only [Bool.false_eq_true, if_false, if_true, Bool.false_or, Bool.true_or]
    clear hh
    unfold Part.val
    dsimp only
    go_enter Tryz.func168, Tryz.ntmps168
    go_wp2_with fail
    refine (H1.out _).mono ?_
    rintro e w1 ⟨rfl, hb1⟩
    obtain ⟨hc1, hf1⟩ := bcell hb1; have hz1_0 : w.heap.size < w1.heap.size := (by have := hb1.size; (try simp at this); omega); have hz1_1 : w.heap.size + 1 < w1.heap.size := (by have := hb1.size; (try simp at this); omega); have hz1_2 : w.heap.size + 1 + 1 < w1.heap.size := (by have := hb1.size; (try simp at this); omega)
  · go_wp2_with fail
    have f1 : w1.cell? ⟨w.heap.size, 0, none⟩ = some (.int .i64 k) := by simp [hc1, go_sem]
    have f2 : w1.cell? ⟨w.heap.size, 1, none⟩ = some (.string t) := by simp [hc1, go_sem]
    have f3 : w1.cell? ⟨w.heap.size + 1, 0, none⟩ = some (.int .i64 k2) := by simp [hc1, go_sem]
    have f4 : w1.cell? ⟨w.heap.size + 1, 1, none⟩ = some (.string t2) := by simp [hc1, go_sem]
    have f5 : w1.cell? ⟨w.heap.size + 1 + 1, 0, none⟩ = some (.int .i64 0) := by simp [hc1, go_sem]
    have f6 : w1.cell? ⟨w.heap.size + 1 + 1, 1, none⟩ = some (.string ⟨#[]⟩) := by simp [hc1, go_sem]
    have f7 : w1.frozen? ⟨w.heap.size + 1 + 1, 0, none⟩ = false := by simp [hf1, go_sem]
    have f8 : w1.frozen? ⟨w.heap.size + 1 + 1, 1, none⟩ = false := by simp [hf1, go_sem]
    clear hc1 hf1
    go_region_held3 (fun w' => w'.cell? ⟨w.heap.size, 0, none⟩ = some (.int .i64 k) ∧ w'.cell? ⟨w.heap.size, 1, none⟩ = some (.string t) ∧ w'.cell? ⟨w.heap.size + 1, 0, none⟩ = some (.int .i64 k2) ∧ w'.cell? ⟨w.heap.size + 1, 1, none⟩ = some (.string t2) ∧ w'.cell? ⟨w.heap.size + 1 + 1, 0, none⟩ = some (rd w' ⟨w.heap.size + 1 + 1, 0, none⟩) ∧ w'.cell? ⟨w.heap.size + 1 + 1, 1, none⟩ = some (rd w' ⟨w.heap.size + 1 + 1, 1, none⟩) ∧ w'.frozen? ⟨w.heap.size + 1 + 1, 0, none⟩ = false ∧ w'.frozen? ⟨w.heap.size + 1 + 1, 1, none⟩ = false ∧ Below w.heap.size w w')
      (first | exact ⟨f1, f2, f3, f4, rd_of f5, rd_of f6, f7, f8, Below.drew (by (repeat (first | exact .refl _ _ | assumption | refine .drew ?_ | refine balloc ?_ _ | refine bdrewN ?_ _ | refine .setCell ?_ (by simp <;> omega) _ | refine bstep ?_ (by assumption))))⟩ | (go_split_ands; exact ⟨cell_keep hb2 ‹_›, cell_keep hb2 ‹_›, cell_keep hb2 ‹_›, cell_keep hb2 ‹_›, rd_keep hb2 ‹_›, rd_keep hb2 ‹_›, frozen_keep hb2 (cell_lt ‹_›) ‹_›, frozen_keep hb2 (cell_lt ‹_›) ‹_›, bstep ‹_› hb2⟩) | (go_split_ands; refine ⟨?_, ?_, ?_, ?_, rd_set (rd_set ‹_›), rd_set (rd_set ‹_›), ?_, ?_, ?_⟩ <;> first | (simp [go_sem, *]; done) | (repeat (first | exact .refl _ _ | assumption | refine .drew ?_ | refine balloc ?_ _ | refine bdrewN ?_ _ | refine .setCell ?_ (by simp <;> omega) _ | refine bstep ?_ (by assumption)))))
      ((go_at_call 100; refine (H2.out _).mono ?_; rintro e w2 ⟨rfl, hb2⟩))
    go_wp2
    exact bodyPost_ret (v := .tuple #[.agg #[.int .i64 k, .string t], .bool (coversP k2 t2 k t)]) (by have g5 := cell_keep (w := w1.drew) hb2 f5; have g6 := cell_keep (w := w1.drew) hb2 f6; simp [results, Tryz.results168, go_sem, g5, g6]) rfl ⟨rfl, by go_split_ands; assumption⟩
  · go_wp2_with fail
    exact bodyPost_ret (v := .tuple #[.agg #[.int .i64 k2, .string t2], .bool true]) (by simp [results, Tryz.results168, go_sem, hc1]) rfl ⟨rfl, by (repeat (first | exact .refl _ _ | assumption | refine .drew ?_ | refine balloc ?_ _ | refine bdrewN ?_ _ | refine .setCell ?_ (by simp <;> omega) _ | refine bstep ?_ (by assumption)))⟩
end Go.Proofs.YtocgkpdolgnbgaaGreatDoor
