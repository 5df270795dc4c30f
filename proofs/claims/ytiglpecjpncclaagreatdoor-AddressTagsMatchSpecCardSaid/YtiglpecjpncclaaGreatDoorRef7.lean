/- What the specification's Split, HasTag and SameList return. -/
import Derived.Test.YtiglpecjpncclaaGreatDoorPlainG
import Derived.Test.YtiglpecjpncclaaGreatDoorSplit2
import Derived.Test.YtiglpecjpncclaaGreatDoorProg
import Derived.WalkKit
import Derived.WalkSpells
import Derived.WalkLawsBesides
import Derived.Below
import Derived.Deep.QuietTactic
import Derived.BigQuiet
import Derived.Lib.QuietBelow
import Derived.Lib.Strings
import Derived.Lib.Hide
import Derived.Deep.RegionWith
import Derived.Deep.RegionHeld3
import Derived.Lib.IndexBytes
namespace Go.Proofs.YtiglpecjpncclaaGreatDoor
open Go.RowKit Go.Sort
set_option linter.unusedVariables false
set_option linter.unusedSimpArgs false
set_option maxRecDepth 100000
def LBox (w : World) (g : Nat) (v : Value) (e : Int) : Prop := Blk w g 48 #[v, .int .i64 e] (0, 0)
theorem LBox.facts {w : World} {g : Nat} {v : Value} {e : Int} (h : LBox w g v e) : w.cell? ⟨g, 0, none⟩ = some v ∧ w.cell? ⟨g, 1, none⟩ = some (.int .i64 e) ∧ w.frozen? ⟨g, 0, none⟩ = false ∧ w.frozen? ⟨g, 1, none⟩ = false :=
  ⟨Blk.cell h 0, Blk.cell h 1, blk_free0 h 0, blk_free0 h 1⟩
theorem tagsR_small (ps : List ByteArray) : (tagsR ps).1.size ≤ 4096 := by
  unfold tagsR
  split
  · exact Nat.zero_le _
  · split
    · exact Nat.zero_le _
    · dsimp only; rw [toB_size]; omega
theorem splitR_long (s : ByteArray) (h : 4096 < s.size) : splitR s = ([], 3) := by
  have he : s.toList.isEmpty = false := by
    cases hem : s.toList.isEmpty
    · rfl
    · rw [Lib.toList_data] at hem
      have := List.isEmpty_iff.1 hem
      have h2 : s.size = 0 := by rw [Lib.size_eq, this]; rfl
      omega
  unfold splitR
  rw [if_neg (by simp [he]), if_neg]
  rintro ⟨_, h2⟩
  have h3 := tagsR_small (splitB 44 s)
  rw [beq_iff_eq, Lib.toList_data, Lib.toList_data] at h2
  rw [Lib.size_eq, h2, ← Lib.size_eq] at h3
  omega
def RListPost (r : List ByteArray × Int) (w : World) (e : Ending) (w' : World) : Prop := Below w.heap.size w w' ∧ ∃ A c, e = .returned (.agg #[.slice A r.1.length c, .int .i64 r.2]) ∧ Reads w' 1 A r.1.length (r.1.map .string)
theorem RListPost.none_ {w w' : World} {er : Int} (hb : Below w.heap.size w w') : RListPost ([], er) w (.returned (.agg #[.slice none 0 0, .int .i64 er])) w' := ⟨hb, none, 0, rfl, Reads.nil_ _ _ _⟩
set_option maxHeartbeats 4000000 in
theorem rSplitTags_any (s : ByteArray) (w : World) (hs : s.size ≤ 100000) : Calls Tryz.prog 22 #[.string s] w (RListPost (splitR s) w) := by
  by_cases hlong : 4096 < s.size
  · rw [splitR_long s hlong]
    have hd : decide ((4096 : Int) < (s.size : Int)) = true := by simp; omega
    go_enter Tryz.func22, Tryz.ntmps22
    go_wp2
    exact bodyPost_ret (v := .agg #[.slice none 0 0, .int .i64 3]) (by simp [results, Tryz.results22, go_sem]) rfl (RListPost.none_ (by (repeat (first | exact Below.refl _ _ | assumption | refine Below.drew ?_ | refine balloc ?_ _ | refine bdrewN ?_ _ | refine Below.setCell ?_ (by first | (simp; done) | (simp; omega)) _ | refine bstep ?_ (by assumption)))))
  · have hd : decide ((4096 : Int) < (s.size : Int)) = false := by simp; omega
    cases hem : s.toList.isEmpty
    · have hr : splitR s = if (tagsR (splitB 44 s)).2 = 0 ∧ ((tagsR (splitB 44 s)).1.toList == s.toList) = true then (splitB 44 s, 0) else ([], 3) := by
        unfold splitR; rw [if_neg (by simp [hem])]
      rw [hr]
      have cS := fun W => rSplit_any s 44 W (by omega)
      have hnum := splitB_num 44 s
      have hsz := splitB_size 44 s
      have herr := tagsR_err (splitB 44 s)
      have cT := fun A c W h => rTags_any A (splitB 44 s).length c (splitB 44 s) W h (by omega) (fun p hp => by have := hsz p hp; omega)
      unfold rTagsV at cT
      rw [rTagsR_eq] at cT
      have hne : (s.toList == []) = false := by
        cases h : s.toList with
        | nil => rw [h] at hem; cases hem
        | cons a l => rfl
      have hne2 : ¬ s.toList = [] := by simpa using hne
      have hbig : (splitB 44 s).length ≤ 200000 := by omega
      clear hnum hsz hem
      generalize splitB 44 s = ps at *
      generalize tagsR ps = r at *
      obtain ⟨T, er⟩ := r
      dsimp only at *
      have HT := Lib.hid cT
      have HS := Lib.hid cS
      clear cT cS hr
      have walkbad : ∀ V, V = RListPost ([], 3) w → (er = 0 → (T.toList == s.toList) = false) → Calls Tryz.prog 22 #[.string s] w V := by
        intro V hV h
        have HV := Lib.hid hV
        rcases herr with rfl | rfl | rfl
        · have h := h rfl
          have h2 : ¬ T.toList = s.toList := by simpa using h
          go_enter Tryz.func22, Tryz.ntmps22
          go_wp2_with (first | (go_at_call 52; refine (HS.out _).mono ?_; rintro e w1 ⟨A, c, rfl, hown, hb1⟩; have hR := Reads.of_own hown; have hX1 : LBox w1 w.heap.size (.slice none 0 0) 0 := Blk.keep (World.alloc_heap_new _ _) hb1) | (go_at_call 20; refine (HT.out _ _ _ (hR.keep (by (repeat (first | exact Below.refl _ _ | assumption | refine Below.drew ?_ | refine balloc ?_ _ | refine bdrewN ?_ _ | refine Below.setCell ?_ (by first | (simp; done) | (simp; omega)) _ | refine bstep ?_ (by assumption)))))).mono ?_; rintro e w2 ⟨rfl, hb2⟩; have hX2 : LBox w2 w.heap.size (.slice none 0 0) 0 := Blk.keep hX1 (by (repeat (first | exact Below.refl _ _ | assumption | refine Below.drew ?_ | refine balloc ?_ _ | refine bdrewN ?_ _ | refine Below.setCell ?_ (by first | (simp; done) | (simp; omega)) _ | refine bstep ?_ (by assumption)))); obtain ⟨x0, x1, f0, f1⟩ := hX2.facts; have hz2 : w.heap.size < w2.heap.size := Blk.lt hX2))
          rw [HV.out]; exact bodyPost_ret (v := .agg #[.slice none 0 0, .int .i64 3]) (by simp [results, Tryz.results22, go_sem, hz2, x0, x1, f0, f1]) rfl (RListPost.none_ (by (repeat (first | exact Below.refl _ _ | assumption | refine Below.drew ?_ | refine balloc ?_ _ | refine bdrewN ?_ _ | refine Below.setCell ?_ (by first | (simp; done) | (simp; omega)) _ | refine bstep ?_ (by assumption)))))
        all_goals
          go_enter Tryz.func22, Tryz.ntmps22
          go_wp2_with (first | (go_at_call 52; refine (HS.out _).mono ?_; rintro e w1 ⟨A, c, rfl, hown, hb1⟩; have hR := Reads.of_own hown; have hX1 : LBox w1 w.heap.size (.slice none 0 0) 0 := Blk.keep (World.alloc_heap_new _ _) hb1) | (go_at_call 20; refine (HT.out _ _ _ (hR.keep (by (repeat (first | exact Below.refl _ _ | assumption | refine Below.drew ?_ | refine balloc ?_ _ | refine bdrewN ?_ _ | refine Below.setCell ?_ (by first | (simp; done) | (simp; omega)) _ | refine bstep ?_ (by assumption)))))).mono ?_; rintro e w2 ⟨rfl, hb2⟩; have hX2 : LBox w2 w.heap.size (.slice none 0 0) 0 := Blk.keep hX1 (by (repeat (first | exact Below.refl _ _ | assumption | refine Below.drew ?_ | refine balloc ?_ _ | refine bdrewN ?_ _ | refine Below.setCell ?_ (by first | (simp; done) | (simp; omega)) _ | refine bstep ?_ (by assumption)))); obtain ⟨x0, x1, f0, f1⟩ := hX2.facts; have hz2 : w.heap.size < w2.heap.size := Blk.lt hX2))
          rw [HV.out]; exact bodyPost_ret (v := .agg #[.slice none 0 0, .int .i64 3]) (by simp [results, Tryz.results22, go_sem, hz2, x0, x1, f0, f1]) rfl (RListPost.none_ (by (repeat (first | exact Below.refl _ _ | assumption | refine Below.drew ?_ | refine balloc ?_ _ | refine bdrewN ?_ _ | refine Below.setCell ?_ (by first | (simp; done) | (simp; omega)) _ | refine bstep ?_ (by assumption)))))
      by_cases hok : er = 0 ∧ (T.toList == s.toList) = true
      · rw [if_pos hok]
        obtain ⟨rfl, he⟩ := hok
        have he2 : T.toList = s.toList := by simpa using he
        generalize hV : RListPost (ps, 0) w = V
        have HV := Lib.hid hV
        clear hV
        go_enter Tryz.func22, Tryz.ntmps22
        go_wp2_with (first | (go_at_call 52; refine (HS.out _).mono ?_; rintro e w1 ⟨A, c, rfl, hown, hb1⟩; have hR := Reads.of_own hown; have hX1 : LBox w1 w.heap.size (.slice none 0 0) 0 := Blk.keep (World.alloc_heap_new _ _) hb1) | (go_at_call 20; refine (HT.out _ _ _ (hR.keep (by (repeat (first | exact Below.refl _ _ | assumption | refine Below.drew ?_ | refine balloc ?_ _ | refine bdrewN ?_ _ | refine Below.setCell ?_ (by first | (simp; done) | (simp; omega)) _ | refine bstep ?_ (by assumption)))))).mono ?_; rintro e w2 ⟨rfl, hb2⟩; have hX2 : LBox w2 w.heap.size (.slice none 0 0) 0 := Blk.keep hX1 (by (repeat (first | exact Below.refl _ _ | assumption | refine Below.drew ?_ | refine balloc ?_ _ | refine bdrewN ?_ _ | refine Below.setCell ?_ (by first | (simp; done) | (simp; omega)) _ | refine bstep ?_ (by assumption)))); obtain ⟨x0, x1, f0, f1⟩ := hX2.facts; have hz2 : w.heap.size < w2.heap.size := Blk.lt hX2))
        have hA2 : ∀ a, A = some a → a.block ≠ w.heap.size := fun a ha => by have := ownsRow_block hown a.block (by rw [ha]; rfl); simp at this; omega
        rw [← HV.out]; exact bodyPost_ret (v := .agg #[.slice A ps.length c, .int .i64 0]) (by simp [results, Tryz.results22, go_sem, hz2, x0, x1, f0, f1]) rfl ⟨by (repeat (first | exact Below.refl _ _ | assumption | refine Below.drew ?_ | refine balloc ?_ _ | refine bdrewN ?_ _ | refine Below.setCell ?_ (by first | (simp; done) | (simp; omega)) _ | refine bstep ?_ (by assumption))), A, c, rfl, Reads.keep (((hR.keep hb2).set_ ⟨w.heap.size, 0, none⟩ _ hA2).set_ ⟨w.heap.size, 1, none⟩ _ hA2) (balloc (Below.refl _ _) _)⟩
      · rw [if_neg hok]
        exact walkbad _ rfl (fun h0 => by simpa [h0] using hok)
    · have hr : splitR s = ([], 0) := by unfold splitR; rw [if_pos hem]
      rw [hr]
      have hq : s.toList = [] := List.isEmpty_iff.1 hem
      go_enter Tryz.func22, Tryz.ntmps22
      go_wp2
      exact bodyPost_ret (v := .agg #[.slice none 0 0, .int .i64 0]) (by simp [results, Tryz.results22, go_sem]) rfl (RListPost.none_ (by (repeat (first | exact Below.refl _ _ | assumption | refine Below.drew ?_ | refine balloc ?_ _ | refine bdrewN ?_ _ | refine Below.setCell ?_ (by first | (simp; done) | (simp; omega)) _ | refine bstep ?_ (by assumption)))))

end Go.Proofs.YtiglpecjpncclaaGreatDoor
