/- Plain: the texts of patterns and of the addresses that they match. -/
import Derived.Test.YtokfclikhfpmhaaGreatDoorIZ14
import Derived.Test.YtokfclikhfpmhaaGreatDoorProg
import Derived.WalkKit
import Derived.WalkSpells
import Derived.WalkLawsBesides
import Derived.Below
import Derived.Deep.QuietTactic
import Derived.BigQuiet
import Derived.Lib.QuietBelow
import Derived.Lib.Strings
import Derived.Lib.Hide
import Derived.Deep.RegionWith
import Derived.Deep.RegionHeld3
import Derived.Lib.IndexBytes
import Derived.Sort.Walk0
namespace Go.Proofs.YtokfclikhfpmhaaGreatDoor
open Go.RowKit Go.Sort
set_option linter.unusedVariables false
set_option linter.unusedSimpArgs false
set_option maxRecDepth 100000
def exText (z : Pat) : ByteArray := joinS (withP z.cust.kind z.cust.text ⟨#[97]⟩ :: wordsL z.parts)
def badL : List Part → List Part → Option (List ByteArray)
  | [], _ => none
  | _ :: _, [] => none
  | a :: xs, b :: ys => if coversP a.kind a.text b.kind b.text then (badL xs ys).map (withP b.kind b.text ⟨#[97]⟩ :: ·) else some (withoutP b.kind b.text a.kind a.text :: wordsL ys)
def coverW (x y : Pat) : ByteArray :=
  if !coversP x.cust.kind x.cust.text y.cust.kind y.cust.text then joinS (withoutP y.cust.kind y.cust.text x.cust.kind x.cust.text :: wordsL y.parts)
  else if decide (y.parts.length < x.parts.length) || (decide (x.parts.length < y.parts.length) && !x.tail) then exText y
  else if y.tail && !x.tail then joinS (withP y.cust.kind y.cust.text ⟨#[97]⟩ :: (wordsL y.parts ++ [⟨#[97]⟩]))
  else match badL x.parts y.parts with
    | some ws => joinS (withP y.cust.kind y.cust.text ⟨#[97]⟩ :: ws)
    | none => ⟨#[]⟩
end Go.Proofs.YtokfclikhfpmhaaGreatDoor
namespace Go.Proofs.YtokfclikhfpmhaaGreatDoor
open Go.RowKit Go.Sort
set_option linter.unusedVariables false
set_option linter.unusedSimpArgs false
set_option maxRecDepth 100000
def ResBox (w : World) (g : Nat) (s : ByteArray) (e : Int) : Prop := Blk w g 147 #[.string s, .int .i64 e] (0, 0)
theorem blk_free0 {w : World} {g : Nat} {t : TypeId} {cs : Array Value} (h : Blk w g t cs (0, 0)) (i : Nat) : w.frozen? ⟨g, i, none⟩ = false := by
  unfold Blk at h
  simp [World.frozen?, h]
theorem ResBox.facts {w : World} {g : Nat} {s : ByteArray} {e : Int} (h : ResBox w g s e) : w.cell? ⟨g, 0, none⟩ = some (.string s) ∧ w.cell? ⟨g, 1, none⟩ = some (.int .i64 e) ∧ w.frozen? ⟨g, 0, none⟩ = false ∧ w.frozen? ⟨g, 1, none⟩ = false :=
  ⟨Blk.cell h 0, Blk.cell h 1, blk_free0 h 0, blk_free0 h 1⟩
theorem insSt_bd (s : ByteArray) (st : List ByteArray × Bool) (x : ByteArray) (k : Nat) (h : st.1.length ≤ if st.2 then k + 1 else k) : (insSt s st x).1.length ≤ if (insSt s st x).2 then k + 2 else k + 1 := by
  obtain ⟨l, b⟩ := st
  unfold insSt insA
  cases b <;> cases leS s x <;> cases (x.toList != s.toList) <;> simp_all <;> omega
theorem insFold_bd (s : ByteArray) (l : List ByteArray) : ∀ (st : List ByteArray × Bool) (k : Nat), st.1.length ≤ (if st.2 then k + 1 else k) → (l.foldl (insSt s) st).1.length ≤ if (l.foldl (insSt s) st).2 then k + l.length + 1 else k + l.length := by
  induction l with
  | nil => intro st k h; obtain ⟨a, b⟩ := st; cases b <;> simpa using h
  | cons x l ih =>
    intro st k h
    have := ih (insSt s st x) (k + 1) (by simpa [Nat.add_assoc] using insSt_bd s st x k h)
    simp only [List.foldl_cons, List.length_cons]
    rw [show k + (l.length + 1) = k + 1 + l.length by omega]
    exact this
theorem insB_len (l : List ByteArray) (s : ByteArray) : (insB l s).length ≤ l.length + 1 := by
  have := insFold_bd s l ([], false) 0 (by simp)
  unfold insB
  split
  · simp_all
  · simp_all
theorem insSt_mem (s : ByteArray) (st : List ByteArray × Bool) (x y : ByteArray) (h : y ∈ (insSt s st x).1) : y ∈ st.1 ∨ y = s ∨ y = x := by
  obtain ⟨l, b⟩ := st
  unfold insSt insA at h
  revert h
  cases b <;> cases leS s x <;> cases (x.toList != s.toList) <;> simp <;> grind
theorem insFold_mem (s y : ByteArray) (l : List ByteArray) : ∀ st : List ByteArray × Bool, y ∈ (l.foldl (insSt s) st).1 → y ∈ st.1 ∨ y = s ∨ y ∈ l := by
  induction l with
  | nil => intro st h; exact .inl h
  | cons x l ih =>
    intro st h
    rcases ih (insSt s st x) h with h | h | h
    · rcases insSt_mem s st x y h with h | h | h
      · exact .inl h
      · exact .inr (.inl h)
      · exact .inr (.inr (by simp [h]))
    · exact .inr (.inl h)
    · exact .inr (.inr (by simp [h]))
theorem insB_mem (l : List ByteArray) (s y : ByteArray) (h : y ∈ insB l s) : y = s ∨ y ∈ l := by
  unfold insB at h
  split at h
  · rcases insFold_mem s y l _ h with h | h | h
    · cases h
    · exact .inl h
    · exact .inr h
  · rcases List.mem_append.1 h with h | h
    · rcases insFold_mem s y l _ h with h | h | h
      · cases h
      · exact .inl h
      · exact .inr h
    · exact .inl (List.mem_singleton.1 h)
def tagsK (l : List ByteArray) (k : Nat) : List ByteArray := (l.take k).foldl insB []
theorem tagsK_step (l : List ByteArray) (k : Nat) (x : ByteArray) (h : l[k]? = some x) : tagsK l (k + 1) = insB (tagsK l k) x := foldl_take _ _ h
theorem tagsK_mem (l : List ByteArray) (k : Nat) (y : ByteArray) (h : y ∈ tagsK l k) : y ∈ l := by
  have key : ∀ (m acc : List ByteArray), y ∈ m.foldl insB acc → y ∈ acc ∨ y ∈ m := by
    intro m
    induction m with
    | nil => intro acc h; exact .inl h
    | cons x m ih =>
      intro acc h
      rcases ih _ h with h | h
      · rcases insB_mem _ _ _ h with h | h
        · exact .inr (by simp [h])
        · exact .inl h
      · exact .inr (by simp [h])
  rcases key _ _ h with h | h
  · cases h
  · exact List.mem_of_mem_take h
theorem tagsK_len (l : List ByteArray) : ∀ k, k ≤ l.length → (tagsK l k).length ≤ k
  | 0, _ => by simp [tagsK]
  | k + 1, h => by
    have hx : l[k]? = some l[k] := List.getElem?_eq_getElem (by omega)
    rw [tagsK_step l k _ hx]
    have := insB_len (tagsK l k) l[k]
    have := tagsK_len l k (by omega)
    omega
theorem tagsK_all (l : List ByteArray) : tagsK l l.length = l.foldl insB [] := by rw [tagsK, List.take_length]
def rTagsL (l : List ByteArray) : List UInt8 := Lib.join (lists (l.foldl insB [])) [44]
def rTagsR (l : List ByteArray) : ByteArray × Int := if l.any (fun p => !isNameB p) then (⟨#[]⟩, 1) else if 4096 < (rTagsL l).length then (⟨#[]⟩, 2) else (toB (rTagsL l), 0)
def rTagsV (l : List ByteArray) : Value := .agg #[.string (rTagsR l).1, .int .i64 (rTagsR l).2]
theorem join_bound2 (l : List ByteArray) (h : ∀ x ∈ l, x.size ≤ 64) : (Lib.join (lists l) [44]).length ≤ l.length * 65 := by
  have := join_bound (lists l) (by
    intro x hx
    obtain ⟨p, hp, rfl⟩ := List.mem_map.1 hx
    have := h p hp
    rw [Lib.size_eq] at this; exact this)
  rwa [lists_len] at this
set_option maxHeartbeats 4000000 in
theorem rTags_any (A : Option Addr) (n c : Nat) (l : List ByteArray) (w : World) (hR : Reads w 1 A n (l.map .string)) (hn : n ≤ 1000000) (hsz : ∀ x ∈ l, x.size ≤ 4294967281) : Calls Tryz.prog 100 #[.slice A n c] w (Ret w (rTagsV l)) := by
  have hl : l.length = n := by have := hR.1; simpa using this
  have HL := Lib.hid hl
  have HR := Lib.hid hR
  have HS := Lib.hid hsz
  obtain ⟨V, hV⟩ : ∃ V, rTagsV l = V := ⟨_, rfl⟩
  have HV := Lib.hid hV
  rw [hV]
  clear hl hR hV hsz
  go_enter Tryz.func100, Tryz.ntmps100
  go_wp2
  have hX0 : ResBox (w.alloc (.cells #[.string ⟨#[]⟩, .int .i64 0] 147)) w.heap.size ⟨#[]⟩ 0 := World.alloc_heap_new _ _
  go_loopw [3, 4] (fun vo vi wr => ∃ (k m : Nat) (A' : Option Addr) (c' : Nat), (vi = .int .i64 k ∧ vo = .slice A' m c' ∧ k ≤ n ∧ m ≤ k) ∧ Hid ((tagsK l k).length = m ∧ ∀ p ∈ l.take k, isNameB p = true) ∧ ResBox wr w.heap.size ⟨#[]⟩ 0 ∧ Reads wr 1 A' m ((tagsK l k).map .string) ∧ Below w.heap.size w wr) (fun _ i _ => n - (intOf i).toNat)
  case atStart => exact ⟨0, 0, none, 0, ⟨rfl, rfl, Nat.zero_le _, Nat.le_refl _⟩, Lib.hid ⟨rfl, by simp⟩, hX0, Reads.nil_ _ _ _, balloc (Below.refl _ _) _⟩
  case round =>
    clear hX0
    obtain ⟨k, m, A', c', ⟨rfl, rfl, hk, hm⟩, HK, hX, hR2, hbr⟩ := hrel
    have HR2 := Lib.hid hR2
    clear hR2
    by_cases hlt : k < n
    · obtain ⟨x, hx⟩ : ∃ x, l[k]? = some x := ⟨_, List.getElem?_eq_getElem (by have := HL.out; omega)⟩
      obtain ⟨b, o, rfl, hcell⟩ := HR.out.2 (by omega)
      have hc0 : w.cell? ⟨b, o + k, none⟩ = some (.string x) := hcell k _ (by simp [hx])
      have hc1 : wr.cell? ⟨b, o + k, none⟩ = some (.string x) := cell_keep hbr hc0
      have hk0 : (0 : Int) ≤ (k : Int) := by omega
      have hk1 : (k : Int) < (n : Int) := by omega
      have hxs := HS.out x (List.mem_of_getElem? hx)
      have HX := Lib.hid hx
      have cN := fun W => rName_any x W hxs
      clear hcell hx
      cases hname : isNameB x
      · have hv : V = .agg #[.string ⟨#[]⟩, .int .i64 1] := by
          rw [← HV.out]
          unfold rTagsV rTagsR
          rw [if_pos (List.any_eq_true.2 ⟨x, List.mem_of_getElem? HX.out, by rw [hname]; rfl⟩)]
        subst hv
        rw [hname] at cN
        go_wp2_with (go_at_call 75; refine (cN _).mono ?_; rintro e w1 ⟨rfl, hb1⟩; have hX1 : ResBox w1 w.heap.size ⟨#[]⟩ 0 := Blk.keep hX hb1; obtain ⟨x0, x1, f0, f1⟩ := hX1.facts; clear cN)
        exact bodyPost_ret (v := .agg #[.string ⟨#[]⟩, .int .i64 1]) (by simp [results, Tryz.results100, go_sem, x0, x1, f0, f1]) rfl ⟨rfl, belB⟩
      · rw [hname] at cN
        have hm2 : (tagsK l (k + 1)).length ≤ k + 1 := tagsK_len l (k + 1) (by have := HL.out; omega)
        have HM := Lib.hid (show tagsK l (k + 1) = insB (tagsK l k) x from tagsK_step l k x HX.out)
        go_wp2_with (first | (go_at_call 75; refine (cN _).mono ?_; rintro e w1 ⟨rfl, hb1⟩; have hX1 : ResBox w1 w.heap.size ⟨#[]⟩ 0 := Blk.keep hX hb1; have hc2 : w1.cell? ⟨b, o + k, none⟩ = some (.string x) := cell_keep hb1 hc1; have cI := rInsert_any A' m c' (tagsK l k) x w1 (HR2.out.keep hb1) (by omega); clear cN) | (go_at_call 131; refine cI.mono ?_; rintro e w2 ⟨A2, c2, rfl, hown2, hb2⟩; clear cI))
        rw [← HM.out] at hown2 ⊢
        exact ⟨⟨k + 1, _, A2, c2, ⟨by go_num, rfl, by omega, hm2⟩, Lib.hid ⟨rfl, by
          rw [List.take_add_one, HX.out]
          intro p hp
          rcases List.mem_append.1 hp with hp | hp
          · exact HK.out.2 p hp
          · rw [show p = x by simpa using hp]; exact hname⟩, Blk.keep hX1 hb2, Reads.of_own hown2, bstep hbr (bstep hb1 hb2)⟩, by simp [intOf]; omega⟩
    · obtain rfl : k = n := by omega
      have hall : l.any (fun p => !isNameB p) = false := by
        rw [List.any_eq_false]
        intro p hp
        have := HK.out.2 p (by rw [List.take_of_length_le (by have := HL.out; omega)]; exact hp)
        simp [this]
      have hke : tagsK l k = l.foldl insB [] := by rw [← HL.out]; exact tagsK_all l
      have h64 : ∀ x ∈ tagsK l k, x.size ≤ 64 := fun x hx => size_of_name (by have := List.any_eq_false.1 hall x (tagsK_mem l k x hx); simpa using this)
      have hb := join_bound2 (tagsK l k) h64
      rw [HK.out.1] at hb
      have cJ := fun W h => rJoined_any A' m c' (tagsK l k) W h (by omega) (by omega) (fun x hx => by have := h64 x hx; omega)
      have hv : V = if 4096 < (toB (Lib.join (lists (tagsK l k)) [44])).size then .agg #[.string ⟨#[]⟩, .int .i64 2] else .agg #[.string (toB (Lib.join (lists (tagsK l k)) [44])), .int .i64 0] := by
        rw [← HV.out, hke]
        unfold rTagsV rTagsR rTagsL
        rw [if_neg (by rw [hall]; decide), toB_size]
        split <;> rfl
      have HC := Lib.hid cJ
      clear hall hke h64 hb cJ HV HK
      generalize toB (Lib.join (lists (tagsK l k)) [44]) = T at *
      by_cases hbig : 4096 < T.size
      · rw [if_pos hbig] at hv
        subst hv
        have hd : decide ((4096 : Int) < (T.size : Int)) = true := by simp; omega
        go_wp2_with (go_at_call 132; refine (HC.out _ HR2.out).mono ?_; rintro e w1 ⟨rfl, hb1⟩; have hX1 : ResBox w1 w.heap.size ⟨#[]⟩ 0 := Blk.keep hX hb1; obtain ⟨x0, x1, f0, f1⟩ := hX1.facts)
        exact bodyPost_ret (v := .agg #[.string ⟨#[]⟩, .int .i64 2]) (by simp [results, Tryz.results100, go_sem, x0, x1, f0, f1]) rfl ⟨rfl, belB⟩
      · rw [if_neg hbig] at hv
        subst hv
        have hd : decide ((4096 : Int) < (T.size : Int)) = false := by simp; omega
        go_wp2_with (go_at_call 132; refine (HC.out _ HR2.out).mono ?_; rintro e w1 ⟨rfl, hb1⟩; have hX1 : ResBox w1 w.heap.size ⟨#[]⟩ 0 := Blk.keep hX hb1; obtain ⟨x0, x1, f0, f1⟩ := hX1.facts)
        exact bodyPost_ret (v := .agg #[.string T, .int .i64 0]) (by simp [results, Tryz.results100, go_sem, x0, x1, f0, f1]) rfl ⟨rfl, belB⟩
end Go.Proofs.YtokfclikhfpmhaaGreatDoor
namespace Go.Proofs.YtokfclikhfpmhaaGreatDoor
open Go.RowKit Go.Sort
set_option linter.unusedVariables false
set_option linter.unusedSimpArgs false
set_option maxRecDepth 100000
theorem key_less (a b : ByteArray) : (!(Op.bytesLess a.toList b.toList || a.toList == b.toList)) = decide (b.data.toList < a.data.toList) := by
  rw [bytesLess_eq, Lib.toList_data, Lib.toList_data, Bool.eq_iff_iff]
  simp only [Bool.not_eq_true', Bool.or_eq_false_iff, decide_eq_false_iff_not, beq_eq_false_iff_ne, decide_eq_true_eq]
  constructor
  · rintro ⟨h1, h2⟩; exact lt_tri _ _ h2 h1
  · intro h
    exact ⟨fun h1 => List.lt_irrefl _ (List.lt_trans h h1), fun e => List.lt_irrefl _ (by rw [e] at h; exact h)⟩
theorem pairK_at (qs : List (ByteArray × ByteArray)) (k : Nat) (hk : k < qs.length) : pairK qs k = true ↔ isNameB qs[k].1 = true ∧ isWordB qs[k].2 = true ∧ (k = 0 ∨ ∃ h : k - 1 < qs.length, qs[k - 1].1.data.toList < qs[k].1.data.toList) := by
  unfold pairK
  rw [List.getElem?_eq_getElem hk]
  simp only [Bool.and_eq_true, Bool.or_eq_true, beq_iff_eq]
  have hk1 : k - 1 < qs.length := by omega
  rw [List.getElem?_eq_getElem hk1]
  simp only [Option.getD_some]
  rw [key_less, decide_eq_true_eq]
  constructor
  · rintro ⟨⟨h1, h2⟩, h3⟩
    exact ⟨h1, h2, h3.imp id fun h => ⟨hk1, h⟩⟩
  · rintro ⟨h1, h2, h3⟩
    exact ⟨⟨h1, h2⟩, h3.imp id fun ⟨_, h⟩ => h⟩
theorem formed_iff (c : ByteArray) (xs : List ByteArray) (qs : List (ByteArray × ByteArray)) : formedB c xs qs = true ↔ AdrGood ⟨c, xs, qs⟩ ∧ (W06 c xs qs).length ≤ 4096 := by
  unfold formedB headOk
  simp only [Bool.and_eq_true, decide_eq_true_eq, List.all_eq_true, List.mem_range]
  constructor
  · rintro ⟨⟨⟨⟨⟨h1, h2⟩, h3⟩, h4⟩, h5⟩, h6⟩
    have hat := fun k hk => (pairK_at qs k hk).1 (h5 k hk)
    refine ⟨⟨h1, h4, h2, h3, ?_, ?_⟩, h6⟩
    · intro q hq
      obtain ⟨k, hk, rfl⟩ := List.getElem_of_mem hq
      exact ⟨(hat k hk).1, (hat k hk).2.1⟩
    · unfold KeysUp
      rw [List.pairwise_iff_getElem]
      intro i j
      induction j with
      | zero => intro _ _ h; omega
      | succ j ih =>
        intro hi hj hij
        rcases (hat (j + 1) hj).2.2 with h | ⟨h, h7⟩
        · omega
        · have e : j + 1 - 1 = j := rfl
          simp only [e] at h7
          by_cases hij2 : i = j
          · subst hij2; exact h7
          · exact List.lt_trans (ih hi (by omega) (by omega)) h7
  · rintro ⟨⟨h1, h4, h2, h3, h5, h7⟩, h6⟩
    refine ⟨⟨⟨⟨⟨h1, h2⟩, h3⟩, h4⟩, fun k hk => ?_⟩, h6⟩
    rw [pairK_at qs k hk]
    have hq := h5 qs[k] (List.getElem_mem hk)
    refine ⟨hq.1, hq.2, ?_⟩
    by_cases h0 : k = 0
    · exact .inl h0
    · have hk1 : k - 1 < qs.length := by omega
      exact .inr ⟨hk1, List.pairwise_iff_getElem.1 h7 (k - 1) k hk1 hk (by omega)⟩
theorem under_iff (p a : ByteArray) : underB p a = true ↔ readB p = true ∧ readB a = true ∧ (parseB p).1.query = [] ∧ ∃ r, a.data.toList = p.data.toList ++ r ∧ (r = [] ∨ r.head? = some 47 ∨ r.head? = some 63) := by
  unfold underB Lib.hasPrefix
  simp only [Bool.and_eq_true, Bool.not_eq_true', decide_eq_false_iff_not, Bool.or_eq_true, List.isEmpty_iff, beq_iff_eq, List.isPrefixOf_iff_prefix]
  constructor
  · rintro ⟨⟨⟨h1, h2⟩, h3⟩, ⟨r, hr⟩, h4⟩
    refine ⟨h1, h2, List.eq_nil_of_length_eq_zero (by omega), r, hr.symm, ?_⟩
    rw [← hr, size_data, List.drop_left] at h4
    rcases h4 with (h4 | h4) | h4
    · exact .inl h4
    · exact .inr (.inl h4)
    · exact .inr (.inr h4)
  · rintro ⟨h1, h2, h3, r, hr, h4⟩
    refine ⟨⟨⟨h1, h2⟩, by rw [h3]; simp⟩, ⟨r, hr.symm⟩, ?_⟩
    rw [hr, size_data, List.drop_left]
    rcases h4 with h4 | h4 | h4
    · exact .inl (.inl h4)
    · exact .inl (.inr h4)
    · exact .inr h4
section
variable {c : ByteArray} {ws : List ByteArray} (hc : isNameB c = true) (hw : ∀ w ∈ ws, isWordB w = true) (hn : ws.length ≤ 32)
include hc hw hn
end
end Go.Proofs.YtokfclikhfpmhaaGreatDoor
namespace Go.Proofs.YtokfclikhfpmhaaGreatDoor
open Go.RowKit Go.Sort
set_option linter.unusedVariables false
set_option linter.unusedSimpArgs false
set_option maxRecDepth 100000
abbrev BL := List UInt8
theorem uniq_sorted : ∀ (xs ys : List BL), xs.Pairwise (· < ·) → ys.Pairwise (· < ·) → (∀ a, a ∈ xs ↔ a ∈ ys) → xs = ys
  | [], [], _, _, _ => rfl
  | [], y :: _, _, _, h => absurd ((h y).2 (by simp)) (by simp)
  | x :: _, [], _, _, h => absurd ((h x).1 (by simp)) (by simp)
  | x :: xs, y :: ys, hx, hy, h => by
    have hx' := List.pairwise_cons.1 hx
    have hy' := List.pairwise_cons.1 hy
    have e : x = y := by
      rcases List.mem_cons.1 ((h x).1 (by simp)) with e | e
      · exact e
      · rcases List.mem_cons.1 ((h y).2 (by simp)) with e2 | e2
        · exact e2.symm
        · exact absurd (hy'.1 x e) (List.lt_asymm (hx'.1 y e2))
    subst e
    rw [uniq_sorted xs ys hx'.2 hy'.2 (fun a => ?_)]
    constructor
    · intro ha
      rcases List.mem_cons.1 ((h a).1 (by simp [ha])) with e | e
      · subst e; exact absurd (hx'.1 a ha) (List.lt_irrefl a)
      · exact e
    · intro ha
      rcases List.mem_cons.1 ((h a).2 (by simp [ha])) with e | e
      · subst e; exact absurd (hy'.1 a ha) (List.lt_irrefl a)
      · exact e
theorem lt_of_le_ne' {a b : BL} (h : a ≤ b) (hn : a ≠ b) : a < b := by
  rcases Decidable.em (a < b) with h1 | h1
  · exact h1
  · exact absurd (List.le_antisymm h (List.not_lt.1 h1)) hn
theorem compact_inv (d : Array BL) (hs : ∀ i j, i ≤ j → j < d.size → d[i]! ≤ d[j]!) : ∀ m, m ≤ d.size → (Lib.compactUpTo d m).Pairwise (· < ·) ∧ (∀ j, j < m → d[j]! ∈ Lib.compactUpTo d m) ∧ (∀ x ∈ Lib.compactUpTo d m, ∃ j, j < m ∧ x = d[j]!)
  | 0, _ => by simp [Lib.compactUpTo]
  | m + 1, hm => by
    obtain ⟨h1, h2, h3⟩ := compact_inv d hs m (by omega)
    rw [Lib.compactUpTo_succ]
    by_cases hk : Lib.keeps d m = true
    · rw [if_pos hk]
      refine ⟨List.pairwise_append.2 ⟨h1, by simp, fun a ha b hb => ?_⟩, fun j hj => ?_, fun x hx => ?_⟩
      · rw [List.mem_singleton.1 hb]
        obtain ⟨j, hj, rfl⟩ := h3 a ha
        have hne : d[m - 1]! ≠ d[m]! := by
          intro e
          simp [Lib.keeps] at hk
          rcases hk with hk | hk
          · omega
          · first | exact hk e.symm | exact hk e
        have l1 := hs j (m - 1) (by omega) (by omega)
        have l2 := lt_of_le_ne' (hs (m - 1) m (by omega) (by omega)) hne
        exact Std.lt_of_le_of_lt l1 l2
      · by_cases e : j = m
        · subst e; simp
        · exact List.mem_append_left _ (h2 j (by omega))
      · rcases List.mem_append.1 hx with hx | hx
        · obtain ⟨j, hj, rfl⟩ := h3 x hx
          exact ⟨j, by omega, rfl⟩
        · exact ⟨m, by omega, List.mem_singleton.1 hx⟩
    · rw [if_neg hk, List.append_nil]
      refine ⟨h1, fun j hj => ?_, fun x hx => ?_⟩
      · by_cases e : j = m
        · subst e
          have hj0 : j ≠ 0 ∧ d[j]! = d[j - 1]! := by
            simp [Lib.keeps] at hk
            first | exact hk | exact ⟨hk.1, hk.2.symm⟩
          rw [hj0.2]
          exact h2 (j - 1) (by omega)
        · exact h2 j (by omega)
      · obtain ⟨j, hj, rfl⟩ := h3 x hx
        exact ⟨j, by omega, rfl⟩
theorem compact_sorted (zs : List BL) (hs : zs.Pairwise (· ≤ ·)) : (Lib.compact zs).Pairwise (· < ·) ∧ ∀ a, a ∈ Lib.compact zs ↔ a ∈ zs := by
  have hd : ∀ i j, i ≤ j → j < zs.toArray.size → zs.toArray[i]! ≤ zs.toArray[j]! := by
    intro i j hij hj
    simp only [List.size_toArray] at hj
    rw [getElem!_pos _ i (by simp; omega), getElem!_pos _ j (by simpa using hj)]
    simp only [List.getElem_toArray]
    rcases Nat.lt_or_eq_of_le hij with h | h
    · exact List.pairwise_iff_getElem.1 hs i j (by omega) hj h
    · subst h; exact List.le_refl _
  obtain ⟨h1, h2, h3⟩ := compact_inv zs.toArray hd zs.length (by simp)
  refine ⟨h1, fun a => ⟨fun h => ?_, fun h => ?_⟩⟩
  · exact compact_mem zs a h
  · obtain ⟨j, hj, rfl⟩ := List.getElem_of_mem h
    have := h2 j hj
    rw [getElem!_pos _ j (by simpa using hj)] at this
    unfold Lib.compact
    simpa using this
def insP (s : ByteArray) : List ByteArray → List ByteArray
  | [] => [s]
  | x :: l => if leS s x then s :: (x :: l).filter (fun y => y.toList != s.toList) else x :: insP s l
theorem leS_iff (s x : ByteArray) : leS s x = true ↔ s.data.toList ≤ x.data.toList := by
  have h := key_less s x
  unfold leS
  rw [← List.not_lt]
  constructor
  · intro h1 h2
    rw [h1] at h
    simp [h2] at h
  · intro h1
    cases hb : (Op.bytesLess s.toList x.toList || s.toList == x.toList)
    · rw [hb] at h
      exact absurd (by simpa using h) h1
    · rfl
theorem ne_iff (s x : ByteArray) : (x.toList != s.toList) = true ↔ x.data.toList ≠ s.data.toList := by
  rw [Lib.toList_data, Lib.toList_data]; simp
theorem ins_true (s : ByteArray) : ∀ (l acc : List ByteArray), l.foldl (insSt s) (acc, true) = (acc ++ l.filter (fun y => y.toList != s.toList), true)
  | [], acc => by simp
  | x :: l, acc => by
    rw [List.foldl_cons]
    have e : insA s (acc, true) x = (acc, true) := by simp [insA]
    cases hne : (x.toList != s.toList)
    · rw [show insSt s (acc, true) x = (acc, true) by simp only [insSt, hne, e]; rfl, ins_true s l acc, List.filter_cons, if_neg (by rw [hne]; decide)]
    · rw [show insSt s (acc, true) x = (acc ++ [x], true) by simp only [insSt, hne, e]; rfl, ins_true s l (acc ++ [x]), List.filter_cons, if_pos hne]
      simp
theorem ins_false (s : ByteArray) : ∀ (l acc : List ByteArray), (if (l.foldl (insSt s) (acc, false)).2 then (l.foldl (insSt s) (acc, false)).1 else (l.foldl (insSt s) (acc, false)).1 ++ [s]) = acc ++ insP s l
  | [], acc => by simp [insP]
  | x :: l, acc => by
    rw [List.foldl_cons]
    cases hle : leS s x
    · have e : insA s (acc, false) x = (acc, false) := by simp [insA, hle]
      have hne : (x.toList != s.toList) = true := by
        rw [ne_iff]
        intro h
        have : leS s x = true := (leS_iff s x).2 (by rw [h]; exact List.le_refl _)
        rw [hle] at this; cases this
      rw [show insSt s (acc, false) x = (acc ++ [x], false) by simp only [insSt, hne, e]; rfl, ins_false s l (acc ++ [x]), insP, hle]
      simp
    · have e : insA s (acc, false) x = (acc ++ [s], true) := by simp [insA, hle]
      have hp : insP s (x :: l) = s :: (x :: l).filter (fun y => y.toList != s.toList) := by rw [insP, if_pos hle]
      cases hne : (x.toList != s.toList)
      · rw [show insSt s (acc, false) x = (acc ++ [s], true) by simp only [insSt, hne, e]; rfl, hp, ins_true]
        have hf : (x :: l).filter (fun y => y.toList != s.toList) = l.filter (fun y => y.toList != s.toList) := by rw [List.filter_cons, if_neg (by rw [hne]; decide)]
        rw [hf]
        simp
      · rw [show insSt s (acc, false) x = (acc ++ [s] ++ [x], true) by simp only [insSt, hne, e]; rfl, hp, ins_true]
        have hf : (x :: l).filter (fun y => y.toList != s.toList) = x :: l.filter (fun y => y.toList != s.toList) := by rw [List.filter_cons, if_pos hne]
        rw [hf]
        simp
theorem insB_eq (l : List ByteArray) (s : ByteArray) : insB l s = insP s l := by
  have := ins_false s l []
  unfold insB
  rw [this]; rfl
theorem insP_mem (s : ByteArray) (a : BL) : ∀ l, a ∈ lists (insP s l) ↔ a = s.data.toList ∨ a ∈ lists l
  | [] => by simp [insP, lists]
  | x :: l => by
    unfold insP
    split
    · simp only [lists, List.map_cons, List.mem_cons, List.mem_map, List.mem_filter]
      constructor
      · rintro (h | ⟨y, ⟨h1, _⟩, h2⟩)
        · exact .inl h
        · rcases h1 with rfl | h1
          · exact .inr (.inl h2.symm)
          · exact .inr (.inr ⟨y, h1, h2⟩)
      · intro h
        by_cases hs : a = s.data.toList
        · exact .inl hs
        · right
          rcases h with h | h | ⟨y, h1, h2⟩
          · exact absurd h hs
          · exact ⟨x, ⟨.inl rfl, (ne_iff s x).2 (by rw [← h]; exact hs)⟩, h.symm⟩
          · exact ⟨y, ⟨.inr h1, (ne_iff s y).2 (by rw [h2]; exact hs)⟩, h2⟩
    · have ih := insP_mem s a l
      simp only [lists, List.map_cons, List.mem_cons] at ih ⊢
      rw [ih]
      constructor
      · rintro (h | h | h)
        · exact .inr (.inl h)
        · exact .inl h
        · exact .inr (.inr h)
      · rintro (h | h | h)
        · exact .inr (.inl h)
        · exact .inl h
        · exact .inr (.inr h)
theorem insP_sorted (s : ByteArray) : ∀ l, (lists l).Pairwise (· < ·) → (lists (insP s l)).Pairwise (· < ·)
  | [], _ => by simp [insP, lists]
  | x :: l, h => by
    have h' := List.pairwise_cons.1 (show (x.data.toList :: lists l).Pairwise (· < ·) from h)
    unfold insP
    split
    · rename_i hle
      have hle := (leS_iff s x).1 hle
      show (s.data.toList :: lists ((x :: l).filter (fun y => y.toList != s.toList))).Pairwise (· < ·)
      refine List.pairwise_cons.2 ⟨fun a ha => ?_, h.sublist (List.filter_sublist.map _)⟩
      obtain ⟨y, hy, rfl⟩ := List.mem_map.1 ha
      obtain ⟨hy1, hy2⟩ := List.mem_filter.1 hy
      have hn := (ne_iff s y).1 hy2
      refine lt_of_le_ne' ?_ (fun e => hn e.symm)
      rcases List.mem_cons.1 hy1 with rfl | hy1
      · exact hle
      · exact List.le_trans hle (List.le_of_lt (h'.1 _ (List.mem_map_of_mem hy1)))
    · rename_i hle
      have hlt : x.data.toList < s.data.toList := by
        rw [← Decidable.not_not (p := x.data.toList < s.data.toList), List.not_lt]
        exact fun h => hle ((leS_iff s x).2 h)
      show (x.data.toList :: lists (insP s l)).Pairwise (· < ·)
      refine List.pairwise_cons.2 ⟨fun a ha => ?_, insP_sorted s l h'.2⟩
      rcases (insP_mem s a l).1 ha with rfl | ha
      · exact hlt
      · exact h'.1 a ha
theorem insFold_sorted (l : List ByteArray) : ∀ acc, (lists acc).Pairwise (· < ·) → (lists (l.foldl insB acc)).Pairwise (· < ·) ∧ ∀ a, a ∈ lists (l.foldl insB acc) ↔ a ∈ lists acc ∨ a ∈ lists l := by
  induction l with
  | nil => intro acc h; exact ⟨h, fun a => by simp [lists]⟩
  | cons x l ih =>
    intro acc h
    obtain ⟨h1, h2⟩ := ih (insB acc x) (by rw [insB_eq]; exact insP_sorted x acc h)
    refine ⟨h1, fun a => ?_⟩
    rw [List.foldl_cons, h2, insB_eq, insP_mem]
    simp only [lists, List.map_cons, List.mem_cons]
    constructor
    · rintro ((h | h) | h)
      · exact .inr (.inl h)
      · exact .inl h
      · exact .inr (.inr h)
    · rintro (h | h | h)
      · exact .inl (.inr h)
      · exact .inl (.inl h)
      · exact .inr h
theorem rTags_same (l : List ByteArray) : rTagsL l = tagsL l := by
  have tr : ∀ a b c : BL, decide (a ≤ b) = true → decide (b ≤ c) = true → decide (a ≤ c) = true := fun a b c h1 h2 => by simp only [decide_eq_true_eq] at *; exact List.le_trans h1 h2
  have tot : ∀ a b : BL, (decide (a ≤ b) || decide (b ≤ a)) = true := fun a b => by simp only [Bool.or_eq_true, decide_eq_true_eq]; exact List.le_total a b
  obtain ⟨h1, h2⟩ := insFold_sorted l [] (by simp [lists])
  obtain ⟨h3, h4⟩ := compact_sorted (sortL (lists l)) ((List.pairwise_mergeSort tr tot _).imp fun h => by simpa using h)
  unfold rTagsL tagsL
  congr 1
  refine uniq_sorted _ _ h1 h3 fun a => ?_
  rw [h2, h4, sortL, (List.mergeSort_perm _ _).mem_iff]
  simp [lists]
theorem rTagsR_eq (l : List ByteArray) : rTagsR l = tagsR l := by
  unfold rTagsR tagsR
  rw [rTags_same]
end Go.Proofs.YtokfclikhfpmhaaGreatDoor
namespace Go.Proofs.YtokfclikhfpmhaaGreatDoor
open Go.RowKit Go.Sort
set_option linter.unusedVariables false
set_option linter.unusedSimpArgs false
set_option maxRecDepth 100000
def totP (l : List (List UInt8)) : Nat := (pathL l).length
theorem totP_cons (x : List UInt8) (l : List (List UInt8)) : totP (x :: l) = x.length + 1 + totP l := by simp [totP, pathL]; omega
theorem totP_nil : totP [] = 0 := rfl
theorem totP_app (a b : List (List UInt8)) : totP (a ++ b) = totP a + totP b := by simp [totP, pathL]
theorem split_tot (c : UInt8) : ∀ l : List UInt8, totP (splitL c l) = l.length + 1
  | [] => by simp [splitL, totP_cons, totP_nil]
  | b :: l => by
    have ih := split_tot c l
    unfold splitL
    split
    · rw [totP_cons, ih]; simp; omega
    · cases hs : splitL c l with
      | nil => exact absurd hs (splitL_ne c l)
      | cons p ps =>
        rw [hs, totP_cons] at ih
        simp only [totP_cons, List.length_cons]
        omega
theorem lists_split (c : UInt8) (s : ByteArray) : lists (splitB c s) = splitL c s.data.toList := by
  unfold splitB lists
  rw [List.map_map]
  conv => rhs; rw [← List.map_id (splitL c s.data.toList)]
  exact List.map_congr_left fun x _ => rfl
theorem totP_dropLast (l : List ByteArray) : totP (lists l.dropLast) ≤ totP (lists l) := by
  rcases List.eq_nil_or_concat l with rfl | ⟨a, x, rfl⟩
  · exact Nat.le_refl _
  · rw [List.concat_eq_append, List.dropLast_concat]
    unfold lists
    rw [List.map_append, totP_app]
    omega
theorem res_tot : ∀ (ps out r : List ByteArray), resB out ps = some r → totP (lists r) ≤ totP (lists out) + totP (lists ps)
  | [], out, r, e => by simp [resB] at e; subst e; simp [lists, totP_nil]
  | p :: ps, out, r, e => by
    rw [resB] at e
    cases hs : resStep out p with
    | none => rw [hs] at e; cases e
    | some o =>
      rw [hs, Option.bind_some] at e
      have ih := res_tot ps o r e
      have ho : totP (lists o) ≤ totP (lists out) + (p.data.toList.length + 1) := by
        unfold resStep at hs
        split at hs
        · injection hs with hs; subst hs; omega
        · split at hs
          · injection hs with hs; subst hs
            have := totP_dropLast out
            omega
          · split at hs
            · injection hs with hs; subst hs
              unfold lists
              rw [List.map_append, totP_app, List.map_cons, totP_cons]
              simp [totP_nil]
            · cases hs
      have hp : totP (lists (p :: ps)) = p.data.toList.length + 1 + totP (lists ps) := totP_cons _ _
      omega
def totQ : List (List UInt8 × List UInt8) → Nat
  | [] => 0
  | q :: l => q.1.length + q.2.length + 2 + totQ l
theorem query_tot : ∀ (sep : UInt8) (l : List (List UInt8 × List UInt8)), (queryL sep l).length = totQ l
  | _, [] => rfl
  | sep, (k, v) :: l => by simp [queryL, totQ, query_tot 38 l]; omega
theorem insL_tot (p : List UInt8 × List UInt8) : ∀ l : List (List UInt8 × List UInt8), totQ (insL l p) ≤ totQ l + (p.1.length + p.2.length + 2)
  | [] => by simp [insL, totQ]
  | q :: l => by
    unfold insL
    have ih := insL_tot p l
    split
    · simp only [totQ]; omega
    · split <;> simp only [totQ] <;> omega
theorem fold_tot : ∀ (l acc : List (List UInt8 × List UInt8)), totQ (l.foldl insL acc) ≤ totQ acc + totQ l
  | [], acc => by simp [totQ]
  | p :: l, acc => by
    have h1 := fold_tot l (insL acc p)
    have h2 := insL_tot p acc
    rw [List.foldl_cons]
    simp only [totQ]
    omega
theorem totQ_app : ∀ (a b : List (List UInt8 × List UInt8)), totQ (a ++ b) = totQ a + totQ b
  | [], b => by simp [totQ]
  | q :: a, b => by simp only [List.cons_append, totQ, totQ_app a b]; omega
theorem cut_tot (l : List UInt8) (c : UInt8) : (Lib.cut l [c]).1.length + (if (Lib.cut l [c]).2.2 then 1 + (Lib.cut l [c]).2.1.length else 0) = l.length ∧ ((Lib.cut l [c]).2.2 = false → (Lib.cut l [c]).2.1 = []) := by
  by_cases h : c ∈ l
  · obtain ⟨a, b, rfl, hna⟩ : ∃ a b, l = a ++ c :: b ∧ c ∉ a := by
      induction l with
      | nil => simp at h
      | cons x l ih =>
        by_cases e : x = c
        · subst e; exact ⟨[], l, rfl, by simp⟩
        · rcases List.mem_cons.1 h with h | h
          · exact absurd h.symm e
          · obtain ⟨a, b, h1, h2⟩ := ih h
            exact ⟨x :: a, b, by rw [h1]; rfl, by simp [h2]; exact fun e2 => e e2.symm⟩
    rw [cut_hit a b c hna]
    simp
    omega
  · rw [cut_none l c h]
    simp
theorem qAcc_tot : ∀ (ps : List ByteArray) (acc r : List (List UInt8 × List UInt8)), qAcc acc ps = some r → totQ r ≤ totQ acc + totP (lists ps)
  | [], acc, r, e => by simp [qAcc] at e; subst e; simp [lists, totP_nil]
  | p :: ps, acc, r, e => by
    rw [qAcc] at e
    cases hs : parsePair p with
    | none => rw [hs] at e; cases e
    | some x =>
      rw [hs] at e
      have ih := qAcc_tot ps _ r e
      have hx : x.1.length + x.2.length + 1 = p.data.toList.length := by
        unfold parsePair at hs
        split at hs
        · rename_i hc
          injection hs with hs
          subst hs
          simp only [Bool.and_eq_true] at hc
          have := (cut_tot p.data.toList 61).1
          rw [hc.1.1] at this
          simp only [if_true] at this
          dsimp only
          omega
        · cases hs
      have hp : totP (lists (p :: ps)) = p.data.toList.length + 1 + totP (lists ps) := totP_cons _ _
      rw [totQ_app] at ih
      simp only [totQ] at ih
      omega
theorem pairs_tot (q : List UInt8) (r : List (ByteArray × ByteArray)) (h : pairsB (toB q) = some r) : totQ (lists2 r) ≤ (if q = [] then 0 else q.length + 1) := by
  unfold pairsB at h
  split at h
  · injection h with h; subst h; simp [lists2, totQ]
  · rename_i hne
    rw [Lib.toList_data] at hne
    have hq : q ≠ [] := fun e => hne (by rw [e]; rfl)
    rw [if_neg hq]
    obtain ⟨acc, ha, rfl⟩ := Option.map_eq_some_iff.1 h
    have h1 := qAcc_tot _ _ _ ha
    rw [lists_split, split_tot] at h1
    have h2 := fold_tot acc []
    have h3 : lists2 ((pairsL acc).map fun q => (toB q.1, toB q.2)) = pairsL acc := by
      unfold lists2
      rw [List.map_map]
      conv => rhs; rw [← List.map_id (pairsL acc)]
      exact List.map_congr_left fun x _ => rfl
    rw [h3]
    unfold pairsL
    simp only [totQ] at h1 h2
    have h4 : (toB q).data.toList.length = q.length := rfl
    omega
theorem trimS_le (l : List UInt8) : (Lib.trimSuffix l [47]).length ≤ l.length := trim_len l [47]
theorem parse_short (s : ByteArray) (h : (parseB s).2 = 0) : (W06 (parseB s).1.cust (parseB s).1.path (parseB s).1.query).length ≤ s.size ∧ s.size ≤ 4096 := by
  unfold parseB at h ⊢
  split at h
  · cases h
  · rename_i hs
    rw [if_neg hs]
    refine ⟨?_, by omega⟩
    have hl0 := cut_tot (lowL s.data.toList) 63
    have hc0 := cut_tot (Lib.trimSuffix (leftL s).1 [47]) 47
    have ht := trimS_le (leftL s).1
    have hlow := lowL_len s.data.toList
    have hp : ∀ p, pathB (custL s) = some p → totP (lists p) ≤ if (custL s).2.2 then 1 + (custL s).2.1.length else 0 := by
      intro p hp
      unfold pathB at hp
      split at hp
      · rename_i hm
        have := res_tot _ _ _ hp
        rw [lists_split, split_tot] at this
        have e : (toB (custL s).2.1).data.toList.length = (custL s).2.1.length := rfl
        simp only [lists, List.map_nil, totP_nil] at this
        rw [if_pos hm]
        unfold lists
        omega
      · injection hp with hp; subst hp; simp [lists, totP_nil]
    have hq := fun r h => pairs_tot (leftL s).2.1 r h
    rw [size_data, ← hlow]
    change (leftL s).1.length + (if (leftL s).2.2 then 1 + (leftL s).2.1.length else 0) = _ ∧ _ at hl0
    change (custL s).1.length + (if (custL s).2.2 then 1 + (custL s).2.1.length else 0) = _ ∧ _ at hc0
    generalize pathB (custL s) = rr at *
    generalize pairsB (toB (leftL s).2.1) = qq at *
    generalize isNameB (toB (custL s).1) = nm at *
    unfold adrOf at h ⊢
    split at h
    · split at h
      · rename_i hl
        rw [if_pos hl]
        dsimp only
        have h1 := hp _ rfl
        have h2 := hq _ rfl
        unfold W06 writeL
        rw [List.length_append, List.length_append, query_tot]
        have e1 : (toB (custL s).1).data.toList.length = (custL s).1.length := rfl
        unfold totP at h1
        have h3 : (if (leftL s).2.1 = [] then 0 else (leftL s).2.1.length + 1) ≤ if (leftL s).2.2 then 1 + (leftL s).2.1.length else 0 := by
          split
          · omega
          · rename_i hne
            cases hb : (leftL s).2.2
            · exact absurd (hl0.2 hb) hne
            · simp; omega
        omega
      · cases h
    · cases h
end Go.Proofs.YtokfclikhfpmhaaGreatDoor
namespace Go.Proofs.YtokfclikhfpmhaaGreatDoor
open Go.RowKit Go.Sort
set_option linter.unusedVariables false
set_option linter.unusedSimpArgs false
set_option maxRecDepth 100000
theorem all_take {α : Type} {p : α → Bool} {l : List α} {k : Nat} {x : α} (h : (l.take k).all p = true) (hx : l[k]? = some x) (hp : p x = true) : (l.take (k + 1)).all p = true := by
  rw [List.take_add_one, hx]
  simp [h, hp]
theorem all_false {α : Type} {p : α → Bool} {l : List α} {k : Nat} {x : α} (hx : l[k]? = some x) (hp : p x = false) : l.all p = false := by
  rw [List.all_eq_false]
  exact ⟨x, List.mem_of_getElem? hx, by rw [hp]; decide⟩
end Go.Proofs.YtokfclikhfpmhaaGreatDoor
