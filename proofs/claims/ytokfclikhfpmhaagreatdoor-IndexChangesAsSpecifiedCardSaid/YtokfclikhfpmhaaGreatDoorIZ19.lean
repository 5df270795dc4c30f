/- What the specification's Split, HasTag and SameList return. -/
import Derived.Test.YtokfclikhfpmhaaGreatDoorIZ15
import Derived.Test.YtokfclikhfpmhaaGreatDoorIZ12
import Derived.Test.YtokfclikhfpmhaaGreatDoorProg
import Derived.WalkKit
import Derived.WalkSpells
import Derived.WalkLawsBesides
import Derived.Below
import Derived.Deep.QuietTactic
import Derived.BigQuiet
import Derived.Lib.QuietBelow
import Derived.Lib.Strings
import Derived.Lib.Hide
import Derived.Deep.RegionWith
import Derived.Deep.RegionHeld3
import Derived.Lib.IndexBytes
import Derived.Test.YtokfclikhfpmhaaGreatDoorIZ16
import Derived.Deep.DeepCutAuto
import Derived.KernelRfl
namespace Go.Proofs.YtokfclikhfpmhaaGreatDoor
open Go.RowKit Go.Sort
set_option linter.unusedVariables false
set_option linter.unusedSimpArgs false
set_option maxRecDepth 100000
def LBox (w : World) (g : Nat) (v : Value) (e : Int) : Prop := Blk w g 118 #[v, .int .i64 e] (0, 0)
theorem LBox.facts {w : World} {g : Nat} {v : Value} {e : Int} (h : LBox w g v e) : w.cell? ⟨g, 0, none⟩ = some v ∧ w.cell? ⟨g, 1, none⟩ = some (.int .i64 e) ∧ w.frozen? ⟨g, 0, none⟩ = false ∧ w.frozen? ⟨g, 1, none⟩ = false :=
  ⟨Blk.cell h 0, Blk.cell h 1, blk_free0 h 0, blk_free0 h 1⟩
theorem tagsR_small (ps : List ByteArray) : (tagsR ps).1.size ≤ 4096 := by
  unfold tagsR
  split
  · exact Nat.zero_le _
  · split
    · exact Nat.zero_le _
    · dsimp only; rw [toB_size]; omega
theorem splitR_long (s : ByteArray) (h : 4096 < s.size) : splitR s = ([], 3) := by
  have he : s.toList.isEmpty = false := by
    cases hem : s.toList.isEmpty
    · rfl
    · rw [Lib.toList_data] at hem
      have := List.isEmpty_iff.1 hem
      have h2 : s.size = 0 := by rw [Lib.size_eq, this]; rfl
      omega
  unfold splitR
  rw [if_neg (by simp [he]), if_neg]
  rintro ⟨_, h2⟩
  have h3 := tagsR_small (splitB 44 s)
  rw [beq_iff_eq, Lib.toList_data, Lib.toList_data] at h2
  rw [Lib.size_eq, h2, ← Lib.size_eq] at h3
  omega
def RListPost (r : List ByteArray × Int) (w : World) (e : Ending) (w' : World) : Prop := Below w.heap.size w w' ∧ ∃ A c, e = .returned (.agg #[.slice A r.1.length c, .int .i64 r.2]) ∧ Reads w' 1 A r.1.length (r.1.map .string)
theorem RListPost.none_ {w w' : World} {er : Int} (hb : Below w.heap.size w w') : RListPost ([], er) w (.returned (.agg #[.slice none 0 0, .int .i64 er])) w' := ⟨hb, none, 0, rfl, Reads.nil_ _ _ _⟩
set_option maxHeartbeats 4000000 in
theorem rSplitTags_any (s : ByteArray) (w : World) (hs : s.size ≤ 100000) : Calls Tryz.prog 67 #[.string s] w (RListPost (splitR s) w) := by
  by_cases hlong : 4096 < s.size
  · rw [splitR_long s hlong]
    have hd : decide ((4096 : Int) < (s.size : Int)) = true := by simp; omega
    go_enter Tryz.func67, Tryz.ntmps67
    go_wp2
    exact bodyPost_ret (v := .agg #[.slice none 0 0, .int .i64 3]) (by simp [results, Tryz.results67, go_sem]) rfl (RListPost.none_ belB)
  · have hd : decide ((4096 : Int) < (s.size : Int)) = false := by simp; omega
    cases hem : s.toList.isEmpty
    · have hr : splitR s = if (tagsR (splitB 44 s)).2 = 0 ∧ ((tagsR (splitB 44 s)).1.toList == s.toList) = true then (splitB 44 s, 0) else ([], 3) := by
        unfold splitR; rw [if_neg (by simp [hem])]
      rw [hr]
      have cS := fun W => rSplit_any s 44 W (by omega)
      have hnum := splitB_num 44 s
      have hsz := splitB_size 44 s
      have herr := tagsR_err (splitB 44 s)
      have cT := fun A c W h => rTags_any A (splitB 44 s).length c (splitB 44 s) W h (by omega) (fun p hp => by have := hsz p hp; omega)
      unfold rTagsV at cT
      rw [rTagsR_eq] at cT
      have hne : (s.toList == []) = false := by
        cases h : s.toList with
        | nil => rw [h] at hem; cases hem
        | cons a l => rfl
      have hne2 : ¬ s.toList = [] := by simpa using hne
      have hbig : (splitB 44 s).length ≤ 200000 := by omega
      clear hnum hsz hem
      generalize splitB 44 s = ps at *
      generalize tagsR ps = r at *
      obtain ⟨T, er⟩ := r
      dsimp only at *
      have HT := Lib.hid cT
      have HS := Lib.hid cS
      clear cT cS hr
      have walkbad : ∀ V, V = RListPost ([], 3) w → (er = 0 → (T.toList == s.toList) = false) → Calls Tryz.prog 67 #[.string s] w V := by
        intro V hV h
        have HV := Lib.hid hV
        rcases herr with rfl | rfl | rfl
        · have h := h rfl
          have h2 : ¬ T.toList = s.toList := by simpa using h
          go_enter Tryz.func67, Tryz.ntmps67
          go_wp2_with (first | (go_at_call 74; refine (HS.out _).mono ?_; rintro e w1 ⟨A, c, rfl, hown, hb1⟩; have hR := Reads.of_own hown; have hX1 : LBox w1 w.heap.size (.slice none 0 0) 0 := Blk.keep (World.alloc_heap_new _ _) hb1) | (go_at_call 100; refine (HT.out _ _ _ (hR.keep belB)).mono ?_; rintro e w2 ⟨rfl, hb2⟩; have hX2 : LBox w2 w.heap.size (.slice none 0 0) 0 := Blk.keep hX1 belB; obtain ⟨x0, x1, f0, f1⟩ := hX2.facts; have hz2 : w.heap.size < w2.heap.size := Blk.lt hX2))
          rw [HV.out]; exact bodyPost_ret (v := .agg #[.slice none 0 0, .int .i64 3]) (by simp [results, Tryz.results67, go_sem, hz2, x0, x1, f0, f1]) rfl (RListPost.none_ belB)
        all_goals
          go_enter Tryz.func67, Tryz.ntmps67
          go_wp2_with (first | (go_at_call 74; refine (HS.out _).mono ?_; rintro e w1 ⟨A, c, rfl, hown, hb1⟩; have hR := Reads.of_own hown; have hX1 : LBox w1 w.heap.size (.slice none 0 0) 0 := Blk.keep (World.alloc_heap_new _ _) hb1) | (go_at_call 100; refine (HT.out _ _ _ (hR.keep belB)).mono ?_; rintro e w2 ⟨rfl, hb2⟩; have hX2 : LBox w2 w.heap.size (.slice none 0 0) 0 := Blk.keep hX1 belB; obtain ⟨x0, x1, f0, f1⟩ := hX2.facts; have hz2 : w.heap.size < w2.heap.size := Blk.lt hX2))
          rw [HV.out]; exact bodyPost_ret (v := .agg #[.slice none 0 0, .int .i64 3]) (by simp [results, Tryz.results67, go_sem, hz2, x0, x1, f0, f1]) rfl (RListPost.none_ belB)
      by_cases hok : er = 0 ∧ (T.toList == s.toList) = true
      · rw [if_pos hok]
        obtain ⟨rfl, he⟩ := hok
        have he2 : T.toList = s.toList := by simpa using he
        generalize hV : RListPost (ps, 0) w = V
        have HV := Lib.hid hV
        clear hV
        go_enter Tryz.func67, Tryz.ntmps67
        go_wp2_with (first | (go_at_call 74; refine (HS.out _).mono ?_; rintro e w1 ⟨A, c, rfl, hown, hb1⟩; have hR := Reads.of_own hown; have hX1 : LBox w1 w.heap.size (.slice none 0 0) 0 := Blk.keep (World.alloc_heap_new _ _) hb1) | (go_at_call 100; refine (HT.out _ _ _ (hR.keep belB)).mono ?_; rintro e w2 ⟨rfl, hb2⟩; have hX2 : LBox w2 w.heap.size (.slice none 0 0) 0 := Blk.keep hX1 belB; obtain ⟨x0, x1, f0, f1⟩ := hX2.facts; have hz2 : w.heap.size < w2.heap.size := Blk.lt hX2))
        have hA2 : ∀ a, A = some a → a.block ≠ w.heap.size := fun a ha => by have := ownsRow_block hown a.block (by rw [ha]; rfl); simp at this; omega
        rw [← HV.out]; exact bodyPost_ret (v := .agg #[.slice A ps.length c, .int .i64 0]) (by simp [results, Tryz.results67, go_sem, hz2, x0, x1, f0, f1]) rfl ⟨belB, A, c, rfl, Reads.keep (((hR.keep hb2).set_ ⟨w.heap.size, 0, none⟩ _ hA2).set_ ⟨w.heap.size, 1, none⟩ _ hA2) (balloc (Below.refl _ _) _)⟩
      · rw [if_neg hok]
        exact walkbad _ rfl (fun h0 => by simpa [h0] using hok)
    · have hr : splitR s = ([], 0) := by unfold splitR; rw [if_pos hem]
      rw [hr]
      have hq : s.toList = [] := List.isEmpty_iff.1 hem
      go_enter Tryz.func67, Tryz.ntmps67
      go_wp2
      exact bodyPost_ret (v := .agg #[.slice none 0 0, .int .i64 0]) (by simp [results, Tryz.results67, go_sem]) rfl (RListPost.none_ belB)
end Go.Proofs.YtokfclikhfpmhaaGreatDoor
namespace Go.Proofs.YtokfclikhfpmhaaGreatDoor
open Go.RowKit Go.Sort
set_option linter.unusedVariables false
set_option linter.unusedSimpArgs false
set_option maxRecDepth 100000
theorem splitR_len (s : ByteArray) : (splitR s).1.length ≤ 2 * s.size + 2 := by
  unfold splitR
  have := splitB_num 44 s
  split
  · simp
  · split
    · simp; omega
    · simp
theorem run_fieldL (A : Option Addr) (n c : Nat) (x : Value) (w : World) : (Instr.field 118 (.agg #[.slice A n c, x]) 0).run Tryz.prog w = .ok (.slice A n c) w := by
  first | kernel_rfl | rfl | simp [Instr.field, part, go_sem, Tryz.underlying118]
set_option maxHeartbeats 4000000 in
theorem rHasTag_any (s tag : ByteArray) (w : World) (hs : s.size ≤ 100000) : Calls Tryz.prog 44 #[.string s, .string tag] w (Ret w (.bool (hasTagB s tag))) := by
  have cS := rSplitTags_any s w hs
  unfold hasTagB
  have hlen := splitR_len s
  generalize splitR s = r at *
  obtain ⟨ps, er⟩ := r
  dsimp only at *
  have hn : ps.length ≤ 1000000 := by omega
  generalize hres : Lib.containsS ps tag = res
  have HRES := Lib.hid hres
  have HS := Lib.hid cS
  clear cS hlen hres
  go_enter Tryz.func44, Tryz.ntmps44
  go_wp2_with (go_at_call 67; refine HS.out.mono ?_; rintro e w1 ⟨hb1, A, c, rfl, hR⟩; have HR := Lib.hid hR)
  rw [run_fieldL]
  go_wp2
  go_loopw [6] (fun vi wr => ∃ k : Nat, vi = .int .i64 k ∧ k ≤ ps.length ∧ Hid (tag ∉ ps.take k) ∧ Below w1.heap.size w1 wr) (fun i _ => ps.length - (intOf i).toNat)
  case atStart => exact ⟨0, rfl, Nat.zero_le _, Lib.hid (by simp), belB⟩
  case round =>
    obtain ⟨k, rfl, hk, HK, hbr⟩ := hrel
    by_cases hlt : k < ps.length
    · obtain ⟨x, hx⟩ : ∃ x, ps[k]? = some x := ⟨_, List.getElem?_eq_getElem hlt⟩
      obtain ⟨b, o, rfl, hcell⟩ := (HR.out.keep hbr).2 (by omega)
      have hc1 : wr.cell? ⟨b, o + k, none⟩ = some (.string x) := hcell k _ (by simp [hx])
      have hk0 : (0 : Int) ≤ (k : Int) := by omega
      have hk1 : (k : Int) < (ps.length : Int) := by omega
      have HX := Lib.hid hx
      clear hcell hx hR
      by_cases he : x = tag
      · subst he
        have hv : true = res := by rw [← HRES.out]; exact ((Lib.containsS_iff _ _).2 (List.mem_of_getElem? HX.out)).symm
        have hq : (x.toList == x.toList) = true := by simp
        subst hv
        go_wp2
        go_ret
        exact ⟨rfl, belB⟩
      · have hq2 : ¬ x.toList = tag.toList := by
          rw [Lib.toList_data, Lib.toList_data]
          exact fun h => he (bytes_ext h)
        have hq : (x.toList == tag.toList) = false := by simpa using hq2
        have HK2 : Hid (tag ∉ ps.take (k + 1)) := Lib.hid (by
          rw [List.take_add_one, HX.out]
          intro h
          rcases List.mem_append.1 h with h | h
          · exact HK.out h
          · exact he (by simpa using (show tag ∈ [x] from h) : tag = x).symm)
        clear HK
        go_wp2
        exact ⟨⟨k + 1, by go_num, by omega, HK2, hbr⟩, by simp [intOf]; omega⟩
    · obtain rfl : k = ps.length := by omega
      have hv : false = res := by
        rw [← HRES.out]
        cases h : Lib.containsS ps tag
        · rfl
        · have := HK.out
          rw [List.take_length] at this
          exact absurd ((Lib.containsS_iff _ _).1 h) this
      subst hv
      go_wp2
      go_ret
      exact ⟨rfl, belB⟩
end Go.Proofs.YtokfclikhfpmhaaGreatDoor
namespace Go.Proofs.YtokfclikhfpmhaaGreatDoor
open Go.RowKit Go.Sort
set_option linter.unusedVariables false
set_option linter.unusedSimpArgs false
set_option maxRecDepth 100000
def coversV : Option Pat → Option Pat → Value
  | some x, some y => .tuple #[.bool (coverB x y), .string (if coverB x y then ⟨#[]⟩ else coverW x y), .int .i64 0]
  | _, _ => .tuple #[.bool false, .string ⟨#[]⟩, .int .i64 1]
theorem Reads.put {w : World} {g n k : Nat} {vs : List Value} (h : Reads w 1 (some ⟨g, 0, none⟩) n vs) (hk : k < n) (v : Value) : Reads (w.setCell ⟨g, 0 + k, none⟩ v) 1 (some ⟨g, 0, none⟩) n (vs.set k v) := by
  refine ⟨by simpa using h.1, fun hn => ⟨g, 0, rfl, fun j u hu => ?_⟩⟩
  obtain ⟨b, o, he, hc⟩ := h.2 hn
  injection he with he; injection he with h1 h2 _; subst h1; subst h2
  by_cases e : k = j
  · subst e
    have hl : k < vs.length := by have := h.1; omega
    rw [List.getElem?_set_self hl] at hu
    injection hu with hu; subst hu
    exact World.cell?_setCell_same w _ v (hc k _ (List.getElem?_eq_getElem hl))
  · rw [List.getElem?_set_ne e] at hu
    exact (World.cell?_setCell_other w _ ⟨g, 0 + j, none⟩ v (by intro h; injection h with _ h _; omega)).trans (hc j u hu)
end Go.Proofs.YtokfclikhfpmhaaGreatDoor
namespace Go.Proofs.YtokfclikhfpmhaaGreatDoor
open Go.RowKit Go.Sort
set_option linter.unusedVariables false
set_option linter.unusedSimpArgs false
set_option maxRecDepth 100000
theorem s1 : canonV (⟨#[65, 99, 109, 101, 47, 78, 101, 119, 115, 47, 46, 47, 50, 48, 50, 54, 47, 46, 46, 47, 97, 46, 72, 84, 77, 76, 47, 63, 98, 61, 50, 38, 97, 61, 49]⟩ : ByteArray) = .tuple #[.string (⟨#[97, 99, 109, 101, 47, 110, 101, 119, 115, 47, 97, 46, 104, 116, 109, 108, 63, 97, 61, 49, 38, 98, 61, 50]⟩ : ByteArray), .int .i64 0] := by kernel_rfl
theorem s2 : matchB (⟨#[97, 99, 109, 101, 47, 110, 101, 119, 115, 47, 42, 42]⟩ : ByteArray) (⟨#[97, 99, 109, 101, 47, 110, 101, 119, 115]⟩ : ByteArray) = true := by kernel_rfl
theorem s3 : matchB (⟨#[97, 99, 109, 101, 47, 42, 47, 42, 46, 104, 116, 109, 108]⟩ : ByteArray) (⟨#[97, 99, 109, 101, 47, 110, 101, 119, 115, 47, 97, 46, 104, 116, 109, 108]⟩ : ByteArray) = true := by kernel_rfl
theorem s4 : matchB (⟨#[97, 99, 109, 101, 47, 42]⟩ : ByteArray) (⟨#[97, 99, 109, 101, 47, 97, 47, 98]⟩ : ByteArray) = false := by kernel_rfl
theorem s5 : coversV (compileB (⟨#[97, 99, 109, 101, 47, 42, 42]⟩ : ByteArray)) (compileB (⟨#[97, 99, 109, 101, 47, 42, 46, 99, 115, 115]⟩ : ByteArray)) = .tuple #[.bool true, .string ⟨#[]⟩, .int .i64 0] := by kernel_rfl
theorem s6 : coversV (compileB (⟨#[97, 99, 109, 101, 47, 42, 46, 99, 115, 115]⟩ : ByteArray)) (compileB (⟨#[97, 99, 109, 101, 47, 42]⟩ : ByteArray)) = .tuple #[.bool false, .string (⟨#[97, 99, 109, 101, 47, 97]⟩ : ByteArray), .int .i64 0] := by kernel_rfl
theorem s7 : meetV (bothP (⟨#[97, 99, 109, 101, 47, 42, 47, 98]⟩ : ByteArray) (⟨#[97, 99, 109, 101, 47, 97, 47, 42, 42]⟩ : ByteArray)) = .tuple #[.bool true, .string (⟨#[97, 99, 109, 101, 47, 97, 47, 98]⟩ : ByteArray), .int .i64 0] := by kernel_rfl
theorem s8 : meetV (bothP (⟨#[97, 99, 109, 101, 47, 42, 46, 99, 115, 115]⟩ : ByteArray) (⟨#[97, 99, 109, 101, 47, 42, 46, 106, 115]⟩ : ByteArray)) = .tuple #[.bool false, .string ⟨#[]⟩, .int .i64 0] := by kernel_rfl
theorem s9 : matchB (⟨#[97, 99, 109, 101, 47, 42]⟩ : ByteArray) (⟨#[97, 99, 109, 101, 47, 97]⟩ : ByteArray) = true := by kernel_rfl
theorem sortL_of {xs ys : List (List UInt8)} (hp : ys.Perm xs) (hs : ys.Pairwise (· ≤ ·)) : sortL xs = ys := by
  have tr : ∀ a b c : List UInt8, decide (a ≤ b) = true → decide (b ≤ c) = true → decide (a ≤ c) = true := fun a b c h1 h2 => by simp only [decide_eq_true_eq] at *; exact List.le_trans h1 h2
  have tot : ∀ a b : List UInt8, (decide (a ≤ b) || decide (b ≤ a)) = true := fun a b => by simp only [Bool.or_eq_true, decide_eq_true_eq]; exact List.le_total a b
  refine List.Perm.eq_of_pairwise (le := fun a b => decide (a ≤ b) = true) (fun a b _ _ h1 h2 => ?_) (List.pairwise_mergeSort tr tot _) (hs.imp fun h => decide_eq_true h) ((List.mergeSort_perm _ _).trans hp.symm)
  simp only [decide_eq_true_eq] at h1 h2
  exact List.le_antisymm h1 h2
theorem t10 : tagsL [(⟨#[98]⟩ : ByteArray), (⟨#[97]⟩ : ByteArray), (⟨#[98]⟩ : ByteArray)] = [97, 44, 98] := by
  have h : sortL (lists [(⟨#[98]⟩ : ByteArray), (⟨#[97]⟩ : ByteArray), (⟨#[98]⟩ : ByteArray)]) = [[97], [98], [98]] := sortL_of (by decide) (by decide)
  unfold tagsL
  rw [h]
  show Lib.join (Lib.compact [[97], [98], [98]]) [44] = [97, 44, 98]
  kernel_rfl
theorem t13 : tagsL [(⟨#[97]⟩ : ByteArray), (⟨#[98]⟩ : ByteArray)] = [97, 44, 98] := by
  have h : sortL (lists [(⟨#[97]⟩ : ByteArray), (⟨#[98]⟩ : ByteArray)]) = [[97], [98]] := sortL_of (by decide) (by decide)
  unfold tagsL
  rw [h]
  show Lib.join (Lib.compact [[97], [98]]) [44] = [97, 44, 98]
  kernel_rfl
end Go.Proofs.YtokfclikhfpmhaaGreatDoor
