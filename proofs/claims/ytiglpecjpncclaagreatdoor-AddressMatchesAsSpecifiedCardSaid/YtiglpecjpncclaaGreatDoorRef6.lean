/- What the specification's Tags returns. -/
import Derived.Test.YtiglpecjpncclaaGreatDoorRef5
import Derived.Test.YtiglpecjpncclaaGreatDoorProg
import Derived.WalkKit
import Derived.WalkSpells
import Derived.WalkLawsBesides
import Derived.Below
import Derived.Deep.QuietTactic
import Derived.BigQuiet
import Derived.Lib.QuietBelow
import Derived.Lib.Strings
import Derived.Lib.Hide
import Derived.Deep.RegionWith
import Derived.Deep.RegionHeld3
import Derived.Lib.IndexBytes
namespace Go.Proofs.YtiglpecjpncclaaGreatDoor
open Go.RowKit Go.Sort
set_option linter.unusedVariables false
set_option linter.unusedSimpArgs false
set_option maxRecDepth 100000
def ResBox (w : World) (g : Nat) (s : ByteArray) (e : Int) : Prop := Blk w g 38 #[.string s, .int .i64 e] (0, 0)
theorem blk_free0 {w : World} {g : Nat} {t : TypeId} {cs : Array Value} (h : Blk w g t cs (0, 0)) (i : Nat) : w.frozen? ⟨g, i, none⟩ = false := by
  unfold Blk at h
  simp [World.frozen?, h]
theorem ResBox.facts {w : World} {g : Nat} {s : ByteArray} {e : Int} (h : ResBox w g s e) : w.cell? ⟨g, 0, none⟩ = some (.string s) ∧ w.cell? ⟨g, 1, none⟩ = some (.int .i64 e) ∧ w.frozen? ⟨g, 0, none⟩ = false ∧ w.frozen? ⟨g, 1, none⟩ = false :=
  ⟨Blk.cell h 0, Blk.cell h 1, blk_free0 h 0, blk_free0 h 1⟩
theorem insSt_bd (s : ByteArray) (st : List ByteArray × Bool) (x : ByteArray) (k : Nat) (h : st.1.length ≤ if st.2 then k + 1 else k) : (insSt s st x).1.length ≤ if (insSt s st x).2 then k + 2 else k + 1 := by
  obtain ⟨l, b⟩ := st
  unfold insSt insA
  cases b <;> cases leS s x <;> cases (x.toList != s.toList) <;> simp_all <;> omega
theorem insFold_bd (s : ByteArray) (l : List ByteArray) : ∀ (st : List ByteArray × Bool) (k : Nat), st.1.length ≤ (if st.2 then k + 1 else k) → (l.foldl (insSt s) st).1.length ≤ if (l.foldl (insSt s) st).2 then k + l.length + 1 else k + l.length := by
  induction l with
  | nil => intro st k h; obtain ⟨a, b⟩ := st; cases b <;> simpa using h
  | cons x l ih =>
    intro st k h
    have := ih (insSt s st x) (k + 1) (by simpa [Nat.add_assoc] using insSt_bd s st x k h)
    simp only [List.foldl_cons, List.length_cons]
    rw [show k + (l.length + 1) = k + 1 + l.length by omega]
    exact this
theorem insB_len (l : List ByteArray) (s : ByteArray) : (insB l s).length ≤ l.length + 1 := by
  have := insFold_bd s l ([], false) 0 (by simp)
  unfold insB
  split
  · simp_all
  · simp_all
theorem insSt_mem (s : ByteArray) (st : List ByteArray × Bool) (x y : ByteArray) (h : y ∈ (insSt s st x).1) : y ∈ st.1 ∨ y = s ∨ y = x := by
  obtain ⟨l, b⟩ := st
  unfold insSt insA at h
  revert h
  cases b <;> cases leS s x <;> cases (x.toList != s.toList) <;> simp <;> grind
theorem insFold_mem (s y : ByteArray) (l : List ByteArray) : ∀ st : List ByteArray × Bool, y ∈ (l.foldl (insSt s) st).1 → y ∈ st.1 ∨ y = s ∨ y ∈ l := by
  induction l with
  | nil => intro st h; exact .inl h
  | cons x l ih =>
    intro st h
    rcases ih (insSt s st x) h with h | h | h
    · rcases insSt_mem s st x y h with h | h | h
      · exact .inl h
      · exact .inr (.inl h)
      · exact .inr (.inr (by simp [h]))
    · exact .inr (.inl h)
    · exact .inr (.inr (by simp [h]))
theorem insB_mem (l : List ByteArray) (s y : ByteArray) (h : y ∈ insB l s) : y = s ∨ y ∈ l := by
  unfold insB at h
  split at h
  · rcases insFold_mem s y l _ h with h | h | h
    · cases h
    · exact .inl h
    · exact .inr h
  · rcases List.mem_append.1 h with h | h
    · rcases insFold_mem s y l _ h with h | h | h
      · cases h
      · exact .inl h
      · exact .inr h
    · exact .inl (List.mem_singleton.1 h)
def tagsK (l : List ByteArray) (k : Nat) : List ByteArray := (l.take k).foldl insB []
theorem tagsK_step (l : List ByteArray) (k : Nat) (x : ByteArray) (h : l[k]? = some x) : tagsK l (k + 1) = insB (tagsK l k) x := foldl_take _ _ h
theorem tagsK_mem (l : List ByteArray) (k : Nat) (y : ByteArray) (h : y ∈ tagsK l k) : y ∈ l := by
  have key : ∀ (m acc : List ByteArray), y ∈ m.foldl insB acc → y ∈ acc ∨ y ∈ m := by
    intro m
    induction m with
    | nil => intro acc h; exact .inl h
    | cons x m ih =>
      intro acc h
      rcases ih _ h with h | h
      · rcases insB_mem _ _ _ h with h | h
        · exact .inr (by simp [h])
        · exact .inl h
      · exact .inr (by simp [h])
  rcases key _ _ h with h | h
  · cases h
  · exact List.mem_of_mem_take h
theorem tagsK_len (l : List ByteArray) : ∀ k, k ≤ l.length → (tagsK l k).length ≤ k
  | 0, _ => by simp [tagsK]
  | k + 1, h => by
    have hx : l[k]? = some l[k] := List.getElem?_eq_getElem (by omega)
    rw [tagsK_step l k _ hx]
    have := insB_len (tagsK l k) l[k]
    have := tagsK_len l k (by omega)
    omega
theorem tagsK_all (l : List ByteArray) : tagsK l l.length = l.foldl insB [] := by rw [tagsK, List.take_length]
def rTagsL (l : List ByteArray) : List UInt8 := Lib.join (lists (l.foldl insB [])) [44]
def rTagsR (l : List ByteArray) : ByteArray × Int := if l.any (fun p => !isNameB p) then (⟨#[]⟩, 1) else if 4096 < (rTagsL l).length then (⟨#[]⟩, 2) else (toB (rTagsL l), 0)
def rTagsV (l : List ByteArray) : Value := .agg #[.string (rTagsR l).1, .int .i64 (rTagsR l).2]
theorem join_bound2 (l : List ByteArray) (h : ∀ x ∈ l, x.size ≤ 64) : (Lib.join (lists l) [44]).length ≤ l.length * 65 := by
  have := join_bound (lists l) (by
    intro x hx
    obtain ⟨p, hp, rfl⟩ := List.mem_map.1 hx
    have := h p hp
    rw [Lib.size_eq] at this; exact this)
  rwa [lists_len] at this
set_option maxHeartbeats 4000000 in
theorem rTags_any (A : Option Addr) (n c : Nat) (l : List ByteArray) (w : World) (hR : Reads w 1 A n (l.map .string)) (hn : n ≤ 1000000) (hsz : ∀ x ∈ l, x.size ≤ 4294967281) : Calls Tryz.prog 20 #[.slice A n c] w (Ret w (rTagsV l)) := by
  have hl : l.length = n := by have := hR.1; simpa using this
  have HL := Lib.hid hl
  have HR := Lib.hid hR
  have HS := Lib.hid hsz
  obtain ⟨V, hV⟩ : ∃ V, rTagsV l = V := ⟨_, rfl⟩
  have HV := Lib.hid hV
  rw [hV]
  clear hl hR hV hsz
  go_enter Tryz.func20, Tryz.ntmps20
  go_wp2
  have hX0 : ResBox (w.alloc (.cells #[.string ⟨#[]⟩, .int .i64 0] 38)) w.heap.size ⟨#[]⟩ 0 := World.alloc_heap_new _ _
  go_loopw [3, 4] (fun vo vi wr => ∃ (k m : Nat) (A' : Option Addr) (c' : Nat), (vi = .int .i64 k ∧ vo = .slice A' m c' ∧ k ≤ n ∧ m ≤ k) ∧ Hid ((tagsK l k).length = m ∧ ∀ p ∈ l.take k, isNameB p = true) ∧ ResBox wr w.heap.size ⟨#[]⟩ 0 ∧ Reads wr 1 A' m ((tagsK l k).map .string) ∧ Below w.heap.size w wr) (fun _ i _ => n - (intOf i).toNat)
  case atStart => exact ⟨0, 0, none, 0, ⟨rfl, rfl, Nat.zero_le _, Nat.le_refl _⟩, Lib.hid ⟨rfl, by simp⟩, hX0, Reads.nil_ _ _ _, balloc (Below.refl _ _) _⟩
  case round =>
    clear hX0
    obtain ⟨k, m, A', c', ⟨rfl, rfl, hk, hm⟩, HK, hX, hR2, hbr⟩ := hrel
    have HR2 := Lib.hid hR2
    clear hR2
    by_cases hlt : k < n
    · obtain ⟨x, hx⟩ : ∃ x, l[k]? = some x := ⟨_, List.getElem?_eq_getElem (by have := HL.out; omega)⟩
      obtain ⟨b, o, rfl, hcell⟩ := HR.out.2 (by omega)
      have hc0 : w.cell? ⟨b, o + k, none⟩ = some (.string x) := hcell k _ (by simp [hx])
      have hc1 : wr.cell? ⟨b, o + k, none⟩ = some (.string x) := cell_keep hbr hc0
      have hk0 : (0 : Int) ≤ (k : Int) := by omega
      have hk1 : (k : Int) < (n : Int) := by omega
      have hxs := HS.out x (List.mem_of_getElem? hx)
      have HX := Lib.hid hx
      have cN := fun W => rName_any x W hxs
      clear hcell hx
      cases hname : isNameB x
      · have hv : V = .agg #[.string ⟨#[]⟩, .int .i64 1] := by
          rw [← HV.out]
          unfold rTagsV rTagsR
          rw [if_pos (List.any_eq_true.2 ⟨x, List.mem_of_getElem? HX.out, by rw [hname]; rfl⟩)]
        subst hv
        rw [hname] at cN
        go_wp2_with (go_at_call 53; refine (cN _).mono ?_; rintro e w1 ⟨rfl, hb1⟩; have hX1 : ResBox w1 w.heap.size ⟨#[]⟩ 0 := Blk.keep hX hb1; obtain ⟨x0, x1, f0, f1⟩ := hX1.facts; clear cN)
        exact bodyPost_ret (v := .agg #[.string ⟨#[]⟩, .int .i64 1]) (by simp [results, Tryz.results20, go_sem, x0, x1, f0, f1]) rfl ⟨rfl, by (repeat (first | exact Below.refl _ _ | assumption | refine Below.drew ?_ | refine balloc ?_ _ | refine bdrewN ?_ _ | refine Below.setCell ?_ (by first | (simp; done) | (simp; omega)) _ | refine bstep ?_ (by assumption)))⟩
      · rw [hname] at cN
        have hm2 : (tagsK l (k + 1)).length ≤ k + 1 := tagsK_len l (k + 1) (by have := HL.out; omega)
        have HM := Lib.hid (show tagsK l (k + 1) = insB (tagsK l k) x from tagsK_step l k x HX.out)
        go_wp2_with (first | (go_at_call 53; refine (cN _).mono ?_; rintro e w1 ⟨rfl, hb1⟩; have hX1 : ResBox w1 w.heap.size ⟨#[]⟩ 0 := Blk.keep hX hb1; have hc2 : w1.cell? ⟨b, o + k, none⟩ = some (.string x) := cell_keep hb1 hc1; have cI := rInsert_any A' m c' (tagsK l k) x w1 (HR2.out.keep hb1) (by omega); clear cN) | (go_at_call 63; refine cI.mono ?_; rintro e w2 ⟨A2, c2, rfl, hown2, hb2⟩; clear cI))
        rw [← HM.out] at hown2 ⊢
        exact ⟨⟨k + 1, _, A2, c2, ⟨by go_num, rfl, by omega, hm2⟩, Lib.hid ⟨rfl, by
          rw [List.take_add_one, HX.out]
          intro p hp
          rcases List.mem_append.1 hp with hp | hp
          · exact HK.out.2 p hp
          · rw [show p = x by simpa using hp]; exact hname⟩, Blk.keep hX1 hb2, Reads.of_own hown2, bstep hbr (bstep hb1 hb2)⟩, by simp [intOf]; omega⟩
    · obtain rfl : k = n := by omega
      have hall : l.any (fun p => !isNameB p) = false := by
        rw [List.any_eq_false]
        intro p hp
        have := HK.out.2 p (by rw [List.take_of_length_le (by have := HL.out; omega)]; exact hp)
        simp [this]
      have hke : tagsK l k = l.foldl insB [] := by rw [← HL.out]; exact tagsK_all l
      have h64 : ∀ x ∈ tagsK l k, x.size ≤ 64 := fun x hx => size_of_name (by have := List.any_eq_false.1 hall x (tagsK_mem l k x hx); simpa using this)
      have hb := join_bound2 (tagsK l k) h64
      rw [HK.out.1] at hb
      have cJ := fun W h => rJoined_any A' m c' (tagsK l k) W h (by omega) (by omega) (fun x hx => by have := h64 x hx; omega)
      have hv : V = if 4096 < (toB (Lib.join (lists (tagsK l k)) [44])).size then .agg #[.string ⟨#[]⟩, .int .i64 2] else .agg #[.string (toB (Lib.join (lists (tagsK l k)) [44])), .int .i64 0] := by
        rw [← HV.out, hke]
        unfold rTagsV rTagsR rTagsL
        rw [if_neg (by rw [hall]; decide), toB_size]
        split <;> rfl
      have HC := Lib.hid cJ
      clear hall hke h64 hb cJ HV HK
      generalize toB (Lib.join (lists (tagsK l k)) [44]) = T at *
      by_cases hbig : 4096 < T.size
      · rw [if_pos hbig] at hv
        subst hv
        have hd : decide ((4096 : Int) < (T.size : Int)) = true := by simp; omega
        go_wp2_with (go_at_call 64; refine (HC.out _ HR2.out).mono ?_; rintro e w1 ⟨rfl, hb1⟩; have hX1 : ResBox w1 w.heap.size ⟨#[]⟩ 0 := Blk.keep hX hb1; obtain ⟨x0, x1, f0, f1⟩ := hX1.facts)
        exact bodyPost_ret (v := .agg #[.string ⟨#[]⟩, .int .i64 2]) (by simp [results, Tryz.results20, go_sem, x0, x1, f0, f1]) rfl ⟨rfl, by (repeat (first | exact Below.refl _ _ | assumption | refine Below.drew ?_ | refine balloc ?_ _ | refine bdrewN ?_ _ | refine Below.setCell ?_ (by first | (simp; done) | (simp; omega)) _ | refine bstep ?_ (by assumption)))⟩
      · rw [if_neg hbig] at hv
        subst hv
        have hd : decide ((4096 : Int) < (T.size : Int)) = false := by simp; omega
        go_wp2_with (go_at_call 64; refine (HC.out _ HR2.out).mono ?_; rintro e w1 ⟨rfl, hb1⟩; have hX1 : ResBox w1 w.heap.size ⟨#[]⟩ 0 := Blk.keep hX hb1; obtain ⟨x0, x1, f0, f1⟩ := hX1.facts)
        exact bodyPost_ret (v := .agg #[.string T, .int .i64 0]) (by simp [results, Tryz.results20, go_sem, x0, x1, f0, f1]) rfl ⟨rfl, by (repeat (first | exact Below.refl _ _ | assumption | refine Below.drew ?_ | refine balloc ?_ _ | refine bdrewN ?_ _ | refine Below.setCell ?_ (by first | (simp; done) | (simp; omega)) _ | refine bstep ?_ (by assumption)))⟩

end Go.Proofs.YtiglpecjpncclaaGreatDoor
