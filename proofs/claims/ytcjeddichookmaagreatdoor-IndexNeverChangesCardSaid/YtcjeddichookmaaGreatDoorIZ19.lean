/- Valid items, and the address of an item. -/
import Derived.Test.YtcjeddichookmaaGreatDoorIZ18
import Derived.Test.YtcjeddichookmaaGreatDoorIZ12
import Derived.Test.YtcjeddichookmaaGreatDoorIZ15
import Derived.Test.YtcjeddichookmaaGreatDoorIZ16
import Derived.Test.YtcjeddichookmaaGreatDoorProg
import Derived.WalkKit
import Derived.WalkSpells
import Derived.WalkLawsBesides
import Derived.Below
import Derived.Deep.QuietTactic
import Derived.BigQuiet
import Derived.Lib.QuietBelow
import Derived.Lib.Strings
import Derived.Lib.Hide
import Derived.Deep.RegionWith
import Derived.Deep.RegionHeld3
import Derived.Lib.IndexBytes
import Derived.Test.YtcjeddichookmaaGreatDoorIZ0
import Derived.Test.YtcjeddichookmaaGreatDoorIZ5
namespace Go.Proofs.YtcjeddichookmaaGreatDoor
open Go.RowKit Go.Sort
set_option linter.unusedVariables false
set_option linter.unusedSimpArgs false
set_option maxRecDepth 100000
theorem cutK_len (k : ByteArray) : (cutK k).1.length ≤ k.size ∧ (cutK k).2.1.length ≤ k.size := by
  unfold cutK Lib.cut
  rw [Lib.size_eq]
  split <;> simp
  omega
theorem cutSp_any (k : ByteArray) (W : World) (hk : k.size ≤ 4294967280) (hE : Env W) : Calls Tryz.prog 34 #[.string k, .string ⟨#[32]⟩] W (Ret W (.tuple #[.string (toB (cutK k).1), .string (toB (cutK k).2.1), .bool (cutK k).2.2])) := by
  obtain ⟨m, hm⟩ := hE
  refine (Tryz.strings_Cut k ⟨#[32]⟩ m W (by omega) hm).mono ?_
  rintro e w' ⟨rfl, n, rfl⟩
  exact ⟨rfl, belB⟩
theorem addressOf_any (x : It) (w : World) (hk : x.k.size ≤ 4294967280) (hE : Env w) : Calls Tryz.prog 27 #[.agg #[.string x.k, .string x.t, .int .i64 x.z, .int .i64 x.r]] w (Ret w (.string (toB (cutK x.k).1))) := by
  have hc := fun W (hb : Below w.heap.size w W) => cutSp_any x.k W hk (Env.keep hE hb)
  have HC := Lib.hid hc
  clear hc hE
  generalize toB (cutK x.k).1 = a at *
  generalize toB (cutK x.k).2.1 = r at *
  generalize (cutK x.k).2.2 = ok at *
  go_enter Tryz.func27, Tryz.ntmps27
  go_wp2_with (go_at_call 34; refine (HC.out _ belB).mono ?_; rintro e w2 ⟨rfl, hb2⟩)
  go_ret
  exact ⟨rfl, belB⟩
theorem canB_eq (a : ByteArray) : readB a = (decide ((canonR a).2 = 0) && decide ((canonR a).1 = a)) := by rw [← canB_read]; unfold canB; rw [beq_dec]
theorem rest_take (R : ByteArray) (j : Nat) (hj : j < R.size) (h : restB (R.data.toList.take j) = true) (h1 : (decide (33 ≤ R[j].toNat) && decide (R[j].toNat ≤ 126)) = true) : restB (R.data.toList.take (j + 1)) = true := by
  unfold restB at *
  rw [take_snocB R j hj, List.all_append, h]
  simp only [List.all_cons, List.all_nil, Bool.and_true, Bool.true_and]
  exact h1
theorem rest_bad (R : ByteArray) (j : Nat) (hj : j < R.size) (h1 : (decide (33 ≤ R[j].toNat) && decide (R[j].toNat ≤ 126)) = false) : restB R.data.toList = false := by
  unfold restB
  rw [List.all_eq_false]
  refine ⟨R[j], ?_, by rw [h1]; simp⟩
  have hl : j < R.data.toList.length := by rw [← Lib.size_eq]; exact hj
  rw [byte_at R j hj]
  exact List.getElem_mem hl
set_option maxHeartbeats 8000000 in
theorem iValid_any (x : It) (w : World) (hk : x.k.size ≤ 100000) (ht : x.t.size ≤ 100000) (hE : Env w) : Calls Tryz.prog 18 #[.agg #[.string x.k, .string x.t, .int .i64 x.z, .int .i64 x.r]] w (Ret w (.bool (validI x))) := by
  have hc := fun W (hb : Below w.heap.size w W) => cutSp_any x.k W (by omega) (Env.keep hE hb)
  obtain ⟨l1, l2⟩ := cutK_len x.k
  have ha := fun W (hb : Below w.heap.size w W) => canonical_any (toB (cutK x.k).1) W (by rw [toB_size]; omega) (Env.keep hE hb)
  have hs := fun W (hb : Below w.heap.size w W) => addrSplit_any x.t W ht (Env.keep hE hb)
  have hrs : (toB (cutK x.k).2.1).size ≤ 100000 := by rw [toB_size]; omega
  have hv : validI x = ((cutK x.k).2.2 && (decide ((canonR (toB (cutK x.k).1)).2 = 0) && decide ((canonR (toB (cutK x.k).1)).1 = toB (cutK x.k).1)) && decide ((splitR x.t).2 = 0) && decide (x.k.size ≤ 4096) && decide (0 ≤ x.z) && decide (x.z ≤ 1099511627776) && restB (toB (cutK x.k).2.1).data.toList) := by
    unfold validI; rw [canB_eq]; rfl
  simp only [canonV_R] at ha
  generalize validI x = V at *
  generalize canonR (toB (cutK x.k).1) = cr at *
  obtain ⟨c, ce⟩ := cr
  generalize toB (cutK x.k).1 = a at *
  generalize toB (cutK x.k).2.1 = R at *
  generalize (cutK x.k).2.2 = ok at *
  generalize splitR x.t = sr at *
  obtain ⟨sl, f⟩ := sr
  dsimp only at *
  have HC := Lib.hid hc; have HA := Lib.hid ha; have HS := Lib.hid hs
  clear hc ha hs hE l1 l2
  cases ok
  · have HV := Lib.hid (show V = false by rw [hv]; rfl)
    clear hv
    go_enter Tryz.func18, Tryz.ntmps18; go_wp2_with (first | (go_at_call 34; refine (HC.out _ belB).mono ?_; rintro e w2 ⟨rfl, hb2⟩; have hw2 : Below w.heap.size w w2 := belB; obtain ⟨hc2, hf2⟩ := bcell hb2; have hz2 : w.heap.size < w2.heap.size := (by have := hb2.size; simp at this; omega)) | (go_at_call 35; refine (HA.out _ belB).mono ?_; rintro e w3 ⟨rfl, hb3⟩; obtain ⟨hc3, hf3⟩ := bcell hb3; have hz3 : w.heap.size < w3.heap.size := (by have := hb3.size; omega)) | (go_at_call 36; refine (HS.out _ belB).mono ?_; rintro e w4 ⟨hb4, SA, sc, rfl, hsr⟩; obtain ⟨hc4, hf4⟩ := bcell hb4; have hz4 : w.heap.size < w4.heap.size := (by have := hb4.size; omega))); go_ret; exact ⟨ret_bool HV.out.symm, belB⟩
  by_cases h1 : ce = 0
  rotate_left
  · have HV := Lib.hid (show V = false by rw [hv, decide_eq_false h1]; rfl)
    have h1b : (ce == 0) = false := by simpa using h1
    clear hv
    go_enter Tryz.func18, Tryz.ntmps18; go_wp2_with (first | (go_at_call 34; refine (HC.out _ belB).mono ?_; rintro e w2 ⟨rfl, hb2⟩; have hw2 : Below w.heap.size w w2 := belB; obtain ⟨hc2, hf2⟩ := bcell hb2; have hz2 : w.heap.size < w2.heap.size := (by have := hb2.size; simp at this; omega)) | (go_at_call 35; refine (HA.out _ belB).mono ?_; rintro e w3 ⟨rfl, hb3⟩; obtain ⟨hc3, hf3⟩ := bcell hb3; have hz3 : w.heap.size < w3.heap.size := (by have := hb3.size; omega)) | (go_at_call 36; refine (HS.out _ belB).mono ?_; rintro e w4 ⟨hb4, SA, sc, rfl, hsr⟩; obtain ⟨hc4, hf4⟩ := bcell hb4; have hz4 : w.heap.size < w4.heap.size := (by have := hb4.size; omega))); go_ret; exact ⟨ret_bool HV.out.symm, belB⟩
  subst h1
  by_cases h2 : f = 0
  rotate_left
  · have HV := Lib.hid (show V = false by rw [hv, decide_eq_false h2]; simp)
    have h1b : (f == 0) = false := by simpa using h2
    clear hv
    go_enter Tryz.func18, Tryz.ntmps18; go_wp2_with (first | (go_at_call 34; refine (HC.out _ belB).mono ?_; rintro e w2 ⟨rfl, hb2⟩; have hw2 : Below w.heap.size w w2 := belB; obtain ⟨hc2, hf2⟩ := bcell hb2; have hz2 : w.heap.size < w2.heap.size := (by have := hb2.size; simp at this; omega)) | (go_at_call 35; refine (HA.out _ belB).mono ?_; rintro e w3 ⟨rfl, hb3⟩; obtain ⟨hc3, hf3⟩ := bcell hb3; have hz3 : w.heap.size < w3.heap.size := (by have := hb3.size; omega)) | (go_at_call 36; refine (HS.out _ belB).mono ?_; rintro e w4 ⟨hb4, SA, sc, rfl, hsr⟩; obtain ⟨hc4, hf4⟩ := bcell hb4; have hz4 : w.heap.size < w4.heap.size := (by have := hb4.size; omega))); go_ret; exact ⟨ret_bool HV.out.symm, belB⟩
  subst h2
  by_cases h3 : c = a
  rotate_left
  · have HV := Lib.hid (show V = false by rw [hv, decide_eq_false h3]; simp)
    have h1b : (c.toList == a.toList) = false := by rw [beq_dec]; simpa using h3
    have h1c : ¬ c.toList = a.toList := by simpa using h1b
    clear hv h3
    go_enter Tryz.func18, Tryz.ntmps18; go_wp2_with (first | (go_at_call 34; refine (HC.out _ belB).mono ?_; rintro e w2 ⟨rfl, hb2⟩; have hw2 : Below w.heap.size w w2 := belB; obtain ⟨hc2, hf2⟩ := bcell hb2; have hz2 : w.heap.size < w2.heap.size := (by have := hb2.size; simp at this; omega)) | (go_at_call 35; refine (HA.out _ belB).mono ?_; rintro e w3 ⟨rfl, hb3⟩; obtain ⟨hc3, hf3⟩ := bcell hb3; have hz3 : w.heap.size < w3.heap.size := (by have := hb3.size; omega)) | (go_at_call 36; refine (HS.out _ belB).mono ?_; rintro e w4 ⟨hb4, SA, sc, rfl, hsr⟩; obtain ⟨hc4, hf4⟩ := bcell hb4; have hz4 : w.heap.size < w4.heap.size := (by have := hb4.size; omega))); go_ret; exact ⟨ret_bool HV.out.symm, belB⟩
  subst h3
  by_cases h4 : x.k.size ≤ 4096
  rotate_left
  · have HV := Lib.hid (show V = false by rw [hv, decide_eq_false h4]; simp)
    have h1b : (4096 : Int) < (x.k.size : Int) := by omega
    clear hv
    go_enter Tryz.func18, Tryz.ntmps18; go_wp2_with (first | (go_at_call 34; refine (HC.out _ belB).mono ?_; rintro e w2 ⟨rfl, hb2⟩; have hw2 : Below w.heap.size w w2 := belB; obtain ⟨hc2, hf2⟩ := bcell hb2; have hz2 : w.heap.size < w2.heap.size := (by have := hb2.size; simp at this; omega)) | (go_at_call 35; refine (HA.out _ belB).mono ?_; rintro e w3 ⟨rfl, hb3⟩; obtain ⟨hc3, hf3⟩ := bcell hb3; have hz3 : w.heap.size < w3.heap.size := (by have := hb3.size; omega)) | (go_at_call 36; refine (HS.out _ belB).mono ?_; rintro e w4 ⟨hb4, SA, sc, rfl, hsr⟩; obtain ⟨hc4, hf4⟩ := bcell hb4; have hz4 : w.heap.size < w4.heap.size := (by have := hb4.size; omega))); go_ret; exact ⟨ret_bool HV.out.symm, belB⟩
  by_cases h5 : 0 ≤ x.z
  rotate_left
  · have HV := Lib.hid (show V = false by rw [hv, decide_eq_false h5]; simp)
    have h1b : x.z < 0 := by omega
    have h4b : ¬ (4096 : Int) < (x.k.size : Int) := by omega
    clear hv
    go_enter Tryz.func18, Tryz.ntmps18; go_wp2_with (first | (go_at_call 34; refine (HC.out _ belB).mono ?_; rintro e w2 ⟨rfl, hb2⟩; have hw2 : Below w.heap.size w w2 := belB; obtain ⟨hc2, hf2⟩ := bcell hb2; have hz2 : w.heap.size < w2.heap.size := (by have := hb2.size; simp at this; omega)) | (go_at_call 35; refine (HA.out _ belB).mono ?_; rintro e w3 ⟨rfl, hb3⟩; obtain ⟨hc3, hf3⟩ := bcell hb3; have hz3 : w.heap.size < w3.heap.size := (by have := hb3.size; omega)) | (go_at_call 36; refine (HS.out _ belB).mono ?_; rintro e w4 ⟨hb4, SA, sc, rfl, hsr⟩; obtain ⟨hc4, hf4⟩ := bcell hb4; have hz4 : w.heap.size < w4.heap.size := (by have := hb4.size; omega))); go_ret; exact ⟨ret_bool HV.out.symm, belB⟩
  by_cases h6 : x.z ≤ 1099511627776
  rotate_left
  · have HV := Lib.hid (show V = false by rw [hv, decide_eq_false h6]; simp)
    have h1b : ¬ x.z < 0 := by omega
    have h1c : 1099511627776 < x.z := by omega
    have h4b : ¬ (4096 : Int) < (x.k.size : Int) := by omega
    clear hv
    go_enter Tryz.func18, Tryz.ntmps18; go_wp2_with (first | (go_at_call 34; refine (HC.out _ belB).mono ?_; rintro e w2 ⟨rfl, hb2⟩; have hw2 : Below w.heap.size w w2 := belB; obtain ⟨hc2, hf2⟩ := bcell hb2; have hz2 : w.heap.size < w2.heap.size := (by have := hb2.size; simp at this; omega)) | (go_at_call 35; refine (HA.out _ belB).mono ?_; rintro e w3 ⟨rfl, hb3⟩; obtain ⟨hc3, hf3⟩ := bcell hb3; have hz3 : w.heap.size < w3.heap.size := (by have := hb3.size; omega)) | (go_at_call 36; refine (HS.out _ belB).mono ?_; rintro e w4 ⟨hb4, SA, sc, rfl, hsr⟩; obtain ⟨hc4, hf4⟩ := bcell hb4; have hz4 : w.heap.size < w4.heap.size := (by have := hb4.size; omega))); go_ret; exact ⟨ret_bool HV.out.symm, belB⟩
  have hv2 : V = restB R.data.toList := by rw [hv, decide_eq_true h4, decide_eq_true h5, decide_eq_true h6]; simp
  have HV := Lib.hid hv2
  have h1b : ¬ x.z < 0 := by omega
  have h1c : ¬ 1099511627776 < x.z := by omega
  have h4b : ¬ (4096 : Int) < (x.k.size : Int) := by omega
  clear hv hv2
  go_enter Tryz.func18, Tryz.ntmps18
  go_wp2_with (first | (go_at_call 34; refine (HC.out _ belB).mono ?_; rintro e w2 ⟨rfl, hb2⟩; have hw2 : Below w.heap.size w w2 := belB; obtain ⟨hc2, hf2⟩ := bcell hb2; have hz2 : w.heap.size < w2.heap.size := (by have := hb2.size; simp at this; omega)) | (go_at_call 35; refine (HA.out _ belB).mono ?_; rintro e w3 ⟨rfl, hb3⟩; obtain ⟨hc3, hf3⟩ := bcell hb3; have hz3 : w.heap.size < w3.heap.size := (by have := hb3.size; omega)) | (go_at_call 36; refine (HS.out _ belB).mono ?_; rintro e w4 ⟨hb4, SA, sc, rfl, hsr⟩; obtain ⟨hc4, hf4⟩ := bcell hb4; have hz4 : w.heap.size < w4.heap.size := (by have := hb4.size; omega)))
  have hb5 : Below w.heap.size w w4 := belB
  have HB5 := Lib.hid hb5
  clear hb5 hb2 hb3 hb4 hsr hc2 hf2 hc3 hf3 hc4 hf4 hz2 hz3 hz4 hw2 HC HA HS h4 h5 h6 h1b h1c h4b
  go_loopw [62] (fun iv wr => ∃ j : Nat, iv = .int .i64 j ∧ j ≤ R.size ∧ Hid (restB (R.data.toList.take j) = true) ∧ Below w.heap.size w wr) (fun iv _ => R.size - (intOf iv).toNat)
  case atStart => exact ⟨0, rfl, Nat.zero_le _, Lib.hid rfl, HB5.out⟩
  case round =>
    clear HB5
    obtain ⟨j, rfl, hj, HK, hbr⟩ := hrel
    by_cases hlt : j < R.size
    · by_cases hlo : R[j].toNat < 33
      · have HF := Lib.hid (show V = false by rw [HV.out]; exact rest_bad R j hlt (by rw [decide_eq_false (show ¬ 33 ≤ R[j].toNat by omega)]; rfl))
        have hlo2 : (R[j].toNat : Int) < 33 := by omega
        clear HK
        go_wp2
        go_ret
        exact ⟨ret_bool HF.out.symm, belB⟩
      · by_cases hhi : 126 < R[j].toNat
        · have HF := Lib.hid (show V = false by rw [HV.out]; exact rest_bad R j hlt (by rw [decide_eq_false (show ¬ R[j].toNat ≤ 126 by omega), Bool.and_false]))
          have hlo2 : ¬ (R[j].toNat : Int) < 33 := by omega
          have hhi2 : (126 : Int) < (R[j].toNat : Int) := by omega
          clear HK
          go_wp2
          go_ret
          exact ⟨ret_bool HF.out.symm, belB⟩
        · have HK2 := Lib.hid (rest_take R j hlt HK.out (by rw [decide_eq_true (show 33 ≤ R[j].toNat by omega), decide_eq_true (show R[j].toNat ≤ 126 by omega)]; rfl))
          have hlo2 : ¬ (R[j].toNat : Int) < 33 := by omega
          have hhi2 : ¬ (126 : Int) < (R[j].toNat : Int) := by omega
          clear HK
          go_wp2
          exact ⟨⟨j + 1, by go_num, by omega, HK2, hbr⟩, by simp [intOf]; omega⟩
    · obtain rfl : j = R.size := by omega
      have HF := Lib.hid (show V = true by rw [HV.out]; have := HK.out; rwa [List.take_of_length_le (by rw [← Lib.size_eq]; omega)] at this)
      clear HK
      go_wp2
      go_ret
      exact ⟨ret_bool HF.out.symm, belB⟩
end Go.Proofs.YtcjeddichookmaaGreatDoor
namespace Go.Proofs.YtcjeddichookmaaGreatDoor
open Go.RowKit Go.Sort
set_option linter.unusedVariables false
set_option linter.unusedSimpArgs false
set_option maxRecDepth 100000
def IxAt (w : World) (A : Option Addr) (L : List It) : Prop := ∃ t, NodeAt w t A ∧ Tr.toL t = L ∧ TrOk t
theorem IxAt.keep {w w' : World} {A : Option Addr} {L : List It} (h : IxAt w A L) (hb : Below w.heap.size w w') : IxAt w' A L := let ⟨t, h1, h2, h3⟩ := h; ⟨t, NodeAt.keep hb h1, h2, h3⟩
theorem IxAt.nil_ (w : World) : IxAt w none [] := ⟨.nil, rfl, rfl, TrOk.nil⟩
theorem RowV.other {w : World} {b g : Nat} {t s : TypeId} {cs ds : List Value} (h : RowV w b t cs) (k : RowV w g s ds) (hts : s ≠ t) : b ≠ g := by
  intro e
  subst e
  unfold RowV at h k
  rw [h] at k
  injection k with k
  injection k with _ k _
  exact hts k.symm
theorem NodeAt.far {w : World} {g : Nat} {s : TypeId} {ds : List Value} (hg : RowV w g s ds) (hs : s ≠ 58) (k : Nat) (v : Value) : ∀ {t : ITr} {A : Option Addr}, NodeAt w t A → NodeAt (w.setCell ⟨g, k, none⟩ v) t A
  | .nil, A, h => h
  | .node p x l r, A, ⟨b, L, R, e, hp, hr, hl, hr2⟩ => ⟨b, L, R, e, hp, hr.far _ _ (hr.other hg hs), NodeAt.far hg hs k v hl, NodeAt.far hg hs k v hr2⟩
theorem total_size : ∀ t : ITr, Tr.total It.z t = ixSize (Tr.toL t) := fun t => Tr.total_eq It.z t
theorem find_get {t : ITr} {L : List It} (h : Tr.toL t = L) (hu : UpI L) (k : ByteArray) : findT k t = ixGet L k := by
  subst h
  exact Tr.find_eq ordK k t hu
theorem new_any (w : World) : Calls Tryz.prog 6 #[] w (Ret w (.agg #[.pointer none])) := by
  go_enter Tryz.func6, Tryz.ntmps6
  go_wp2
  have q0 := (RowV.new w 27 [.pointer none]).cell (k := 0) rfl
  exact bodyPost_ret (v := .agg #[.pointer none]) (by simp [results, Tryz.results6, go_sem, q0]) rfl ⟨rfl, belB⟩
theorem ixLen_any (A : Option Addr) (L : List It) (w : World) (h : IxAt w A L) : Calls Tryz.prog 11 #[.agg #[.pointer A]] w (Ret w (.int .i64 (L.length : Nat))) := by
  obtain ⟨t, hn, rfl, _⟩ := h
  have hc := fun W (hb : Below w.heap.size w W) => len_ret t A W (NodeAt.keep hb hn)
  rw [Tr.len_eq] at hc
  have HC := Lib.hid hc
  clear hc hn
  generalize (Tr.toL t).length = n at *
  go_enter Tryz.func11, Tryz.ntmps11
  go_wp2_with (go_at_call 22; refine (HC.out _ belB).mono ?_; rintro e w2 ⟨rfl, hb2⟩)
  go_ret
  exact ⟨rfl, belB⟩
theorem ixSize_any (A : Option Addr) (L : List It) (w : World) (h : IxAt w A L) : Calls Tryz.prog 12 #[.agg #[.pointer A]] w (Ret w (.int .i64 (ixSize L))) := by
  obtain ⟨t, hn, rfl, _⟩ := h
  have hc := fun W (hb : Below w.heap.size w W) => total_ret t A W (NodeAt.keep hb hn)
  rw [total_size] at hc
  have HC := Lib.hid hc
  clear hc hn
  generalize ixSize (Tr.toL t) = n at *
  go_enter Tryz.func12, Tryz.ntmps12
  go_wp2_with (go_at_call 23; refine (HC.out _ belB).mono ?_; rintro e w2 ⟨rfl, hb2⟩)
  go_ret
  exact ⟨rfl, belB⟩
def DelPost (L : List It) (k : ByteArray) (w : World) (e : Ending) (w' : World) : Prop := ∃ B, e = .returned (.tuple #[.agg #[.pointer B], .bool (ixGet L k).isSome]) ∧ IxAt w' B (ixDel L k) ∧ Below w.heap.size w w'
theorem del_none {L : List It} {k : ByteArray} (h : ixGet L k = none) : ixDel L k = L := by
  unfold ixGet at h
  rw [List.find?_eq_none] at h
  exact Tr.filter_all L (fun y hy => by simpa using h y hy)
set_option maxHeartbeats 4000000 in
theorem ixDelete_any (A : Option Addr) (L : List It) (k : ByteArray) (w : World) (h : IxAt w A L) (hu : UpI L) : Calls Tryz.prog 8 #[.agg #[.pointer A], .string k] w (DelPost L k w) := by
  obtain ⟨t, hn, hL, ho⟩ := h
  have hc := fun W (hb : Below w.heap.size w W) => treeFind_any k t A W (NodeAt.keep hb hn)
  rw [find_get hL hu k] at hc
  have hw := fun W (hb : Below w.heap.size w W) => treeWithout_any k t A W (NodeAt.keep hb hn) ho
  have hix := fun W (hb : Below w.heap.size w W) => IxAt.keep (show IxAt w A L from ⟨t, hn, hL, ho⟩) hb
  have hto : Tr.toL (woT k t) = ixDel L k := by rw [← hL]; exact Tr.toL_without ordK k t (by rw [hL]; exact hu)
  have hok := wo_ok k ho
  have HF := Lib.hid hc; have HW := Lib.hid hw; have HIX := Lib.hid hix; have HTO := Lib.hid hto; have HOK := Lib.hid hok
  have hr0 : RowV ((w.alloc (.cells #[.pointer A] 27)).alloc (.cells #[.pointer none] 27)) (w.heap.size + 1) 27 [.pointer none] := by
    have h := RowV.new (w.alloc (.cells #[.pointer A] 27)) 27 [.pointer none]
    rwa [World.size_alloc] at h
  have hr1 : RowV ((w.alloc (.cells #[.pointer A] 27)).alloc (.cells #[.pointer none] 27)) w.heap.size 27 [.pointer A] := (RowV.new w 27 [.pointer A]).alloc _
  have HR := Lib.hid hr0; have HR1 := Lib.hid hr1
  clear hc hn hL hu hr0 hr1 hw hix hto hok ho
  generalize woT k t = T1 at *
  cases hg : ixGet L k with
  | none =>
    rw [hg] at HF
    unfold DelPost
    rw [del_none hg, hg]
    go_enter Tryz.func8, Tryz.ntmps8
    go_upto_region 2 with (go_at_call 16; refine (HF.out _ belB).mono ?_; rintro e w2 ⟨P, rfl, hP, hb2⟩; cases (show P = none from hP))
    have hR := HR.out.keep hb2
    have hR1 := HR1.out.keep hb2
    have hbw : Below w.heap.size w w2 := belB
    have r0 := hR.cell (k := 0) rfl
    have f0 := hR.free 0
    have s0 := hR1.cell (k := 0) rfl
    clear hb2 HR hP
    go_wp2
    have hS := hR.set_ 0 (.pointer A)
    have hb4 : Below w.heap.size w (w2.setCell ⟨w.heap.size + 1, 0, none⟩ (.pointer A)) := belB
    generalize hw4 : World.setCell _ _ _ = w4 at *
    have q0 := hS.cell (k := 0) rfl
    exact bodyPost_ret (v := .tuple #[.agg #[.pointer A], .bool false]) (by simp [results, Tryz.results8, go_sem, q0]) rfl ⟨A, rfl, HIX.out _ hb4, hb4⟩
  | some x =>
    rw [hg] at HF
    unfold DelPost
    rw [hg, ← HTO.out]
    go_enter Tryz.func8, Tryz.ntmps8
    go_upto_region 3 with ((go_at_call 16; refine (HF.out _ belB).mono ?_; rintro e w2 ⟨P, rfl, hP, hb2⟩); obtain ⟨p, l, r, hnd⟩ := hP; obtain ⟨b, L0, R0, rfl, _⟩ := hnd.facts)
    have hR := HR.out.keep hb2
    have hR1 := HR1.out.keep hb2
    have hbw : Below w.heap.size w w2 := belB
    have s0 := hR1.cell (k := 0) rfl
    clear hb2 HR HR1 hnd
    go_wp2_with (go_at_call 17; refine (HW.out _ hbw).mono ?_; rintro e w3 ⟨Q, rfl, hQ, hb3⟩; have hR3 := hR.keep hb3; have r0 := hR3.cell (k := 0) rfl; have f0 := hR3.free 0)
    have hS := hR3.set_ 0 (.pointer Q)
    have hb4 : Below w.heap.size w (w3.setCell ⟨w.heap.size + 1, 0, none⟩ (.pointer Q)) := belB
    have hN4 := NodeAt.far hR3 (by decide) 0 (.pointer Q) hQ
    generalize hw4 : World.setCell _ _ _ = w4 at *
    have q0 := hS.cell (k := 0) rfl
    exact bodyPost_ret (v := .tuple #[.agg #[.pointer Q], .bool true]) (by simp [results, Tryz.results8, go_sem, q0]) rfl ⟨Q, rfl, ⟨T1, hN4, rfl, HOK.out⟩, hb4⟩
end Go.Proofs.YtcjeddichookmaaGreatDoor
namespace Go.Proofs.YtcjeddichookmaaGreatDoor
open Go.RowKit Go.Sort
set_option linter.unusedVariables false
set_option linter.unusedSimpArgs false
set_option maxRecDepth 100000
theorem from_node_lt {p : Nat} {x : It} {l r : ITr} {k : ByteArray} (h : UpI (Tr.toL (.node p x l r))) (hlt : ltB x.k k = true) : ixFrom (Tr.toL (.node p x l r)) k = ixFrom (Tr.toL r) k := by
  obtain ⟨h1, h2, h3, h4, _⟩ := Tr.up_app (show UpI (Tr.toL l ++ x :: Tr.toL r) from h)
  show (Tr.toL l ++ x :: Tr.toL r).filter _ = _
  rw [List.filter_append, List.filter_cons, if_neg (by simp [hlt]), Tr.filter_no (Tr.toL l) (fun y hy => by have := ltB_tr (h3 y hy) hlt; simp [this])]
  rfl
theorem from_node_ge {p : Nat} {x : It} {l r : ITr} {k : ByteArray} (h : UpI (Tr.toL (.node p x l r))) (hlt : ltB x.k k = false) : ixFrom (Tr.toL (.node p x l r)) k = ixFrom (Tr.toL l) k ++ x :: ixFrom (Tr.toL r) k := by
  show (Tr.toL l ++ x :: Tr.toL r).filter _ = _
  rw [List.filter_append, List.filter_cons, if_pos (by simp [hlt])]
  rfl
theorem up_left {p : Nat} {x : It} {l r : ITr} (h : UpI (Tr.toL (.node p x l r))) : UpI (Tr.toL l) := (Tr.up_app (show UpI (Tr.toL l ++ x :: Tr.toL r) from h)).1
theorem up_right {p : Nat} {x : It} {l r : ITr} (h : UpI (Tr.toL (.node p x l r))) : UpI (Tr.toL r) := (Tr.up_app (show UpI (Tr.toL l ++ x :: Tr.toL r) from h)).2.1
theorem keep_cell {w0 W : World} {b o : Nat} {v : Value} (h : w0.cell? ⟨b, o, none⟩ = some v) (hk : KeepsIn 0 w0.heap.size w0 W) : W.cell? ⟨b, o, none⟩ = some v := (World.cell?_of_block (hk b (Nat.zero_le _) (cell_lt h))).trans h
def WalkP (w0 : World) (J : Nat → World → Prop) (Jx : World → Prop) (k0 n : Nat) (e : Ending) (W' : World) : Prop := (e = .returned (.bool true) ∧ J (k0 + n) W' ∧ KeepsIn 0 w0.heap.size w0 W') ∨ (e = .returned (.bool false) ∧ Jx W')
set_option maxHeartbeats 4000000 in
theorem walk_in (k : ByteArray) (w0 : World) (lp : Nat) (J : Nat → World → Prop) (Jx : World → Prop) (xs : List Value)
    (hY : ∀ k x W1, xs[k]? = some x → J k W1 → YieldAt Fence.wide 0 Tryz.prog lp #[x] W1 fun e W' =>
      (e = .returned (.bool true) ∧ J (k + 1) W' ∧ KeepsIn 0 w0.heap.size W1 W') ∨ (e = .returned (.bool false) ∧ Jx W')) (t : ITr) :
    ∀ (A : Option Addr) (k0 : Nat) (W : World), NodeAt w0 t A → UpI (Tr.toL t) → KeepsIn 0 w0.heap.size w0 W → (∀ (i : Nat) (x : It), (ixFrom (Tr.toL t) k)[i]? = some x → xs[k0 + i]? = some x.val) → J k0 W →
    CallsIn Fence.wide 0 Tryz.prog 32 #[.pointer A, .string k, .func (.yield lp) #[] #[]] W (WalkP w0 J Jx k0 (ixFrom (Tr.toL t) k).length) := by
  induction t with
  | nil =>
    intro A k0 W hA _ hK _ hJ
    cases (show A = none from hA)
    have HK := Lib.hid hK; have HJ := Lib.hid hJ
    clear hK hJ hY
    refine callsIn_of_wp Tryz.func32 rfl trivial ?_ rfl
    simp only [Tryz.ntmps32, List.size_toArray, List.length_cons, List.length_nil, Nat.reduceAdd, Nat.reduceSub, Array.replicate_succ, Array.replicate_zero, List.push_toArray, List.append_toArray, List.nil_append, List.cons_append]
    gi_wp2
    go_ret
    exact .inl ⟨rfl, HJ.out, HK.out⟩
  | node p x l r il ir =>
    intro A k0 W hA hu hK hx hJ
    obtain ⟨b, L, R, rfl, hl, hr2, hp, hr, c0, c1, c6, c7⟩ := hA.facts
    have d1 := keep_cell c1 hK
    have d6 := keep_cell c6 hK
    have d7 := keep_cell c7 hK
    have c2 := hr.cell (k := 2) rfl
    have c3 := hr.cell (k := 3) rfl
    have c4 := hr.cell (k := 4) rfl
    have c5 := hr.cell (k := 5) rfl
    cases hlt : ltB x.k k
    · have hfr := from_node_ge hu hlt
      rw [hfr] at hx ⊢
      have hj := il L k0 W hl (up_left hu) hK (fun i y hy => hx i y (by rw [List.getElem?_append_left (List.getElem?_eq_some_iff.1 hy).1]; exact hy)) hJ
      have hj2 := fun W hK hJ => ir R (k0 + (ixFrom (Tr.toL l) k).length + 1) W hr2 (up_right hu) hK (fun i y hy => by
        have := hx ((ixFrom (Tr.toL l) k).length + 1 + i) y (by rw [List.getElem?_append_right (by omega)]; rw [show (ixFrom (Tr.toL l) k).length + 1 + i - (ixFrom (Tr.toL l) k).length = i + 1 by omega]; simpa using hy)
        rw [← this]; congr 1; omega) hJ
      have hxx : xs[k0 + (ixFrom (Tr.toL l) k).length]? = some x.val := hx _ x (by rw [List.getElem?_append_right (Nat.le_refl _)]; simp)
      have hlen : (ixFrom (Tr.toL l) k ++ x :: ixFrom (Tr.toL r) k).length = (ixFrom (Tr.toL l) k).length + 1 + (ixFrom (Tr.toL r) k).length := by simp; omega
      rw [hlen]
      have HJ1 := Lib.hid hj; have HJ2 := Lib.hid hj2; have HX := Lib.hid hxx; have HY := Lib.hid hY
      have HC := Lib.hid (show ∀ W', KeepsIn 0 w0.heap.size w0 W' → W'.cell? ⟨b, 2, none⟩ = some (.string x.k) ∧ W'.cell? ⟨b, 3, none⟩ = some (.string x.t) ∧ W'.cell? ⟨b, 4, none⟩ = some (.int .i64 x.z) ∧ W'.cell? ⟨b, 5, none⟩ = some (.int .i64 x.r) ∧ W'.cell? ⟨b, 7, none⟩ = some (.pointer R) from
        fun W' h => ⟨keep_cell c2 h, keep_cell c3 h, keep_cell c4 h, keep_cell c5 h, keep_cell c7 h⟩)
      have HB := Lib.hid (show ∀ e W1, WalkP w0 J Jx k0 (ixFrom (Tr.toL l) k).length e W1 → (e = .returned (.bool true) ∧ KeepsIn 0 w0.heap.size w0 W1 ∧ (W1.cell? ⟨b, 2, none⟩ = some (.string x.k) ∧ W1.cell? ⟨b, 3, none⟩ = some (.string x.t) ∧ W1.cell? ⟨b, 4, none⟩ = some (.int .i64 x.z) ∧ W1.cell? ⟨b, 5, none⟩ = some (.int .i64 x.r) ∧ W1.cell? ⟨b, 7, none⟩ = some (.pointer R)) ∧ YieldAt Fence.wide 0 Tryz.prog lp #[.agg #[.string x.k, .string x.t, .int .i64 x.z, .int .i64 x.r]] W1 fun e W' => (e = .returned (.bool true) ∧ J (k0 + (ixFrom (Tr.toL l) k).length + 1) W' ∧ KeepsIn 0 w0.heap.size W1 W') ∨ (e = .returned (.bool false) ∧ Jx W')) ∨ (e = .returned (.bool false) ∧ Jx W1) from fun e W1 h => by
        rcases h with ⟨h1, h2, h3⟩ | h
        · exact .inl ⟨h1, h3, HC.out W1 h3, hY _ _ W1 hxx h2⟩
        · exact .inr h)
      rw [← less_ltB] at hlt
      clear hj hj2 hxx hlen hfr hx hY il ir hA hl hr2 hp hr c0 c1 c6 c7 c2 c3 c4 c5 hu hK hJ
      generalize (ixFrom (Tr.toL l) k).length = n1 at *
      generalize (ixFrom (Tr.toL r) k).length = n2 at *
      refine callsIn_of_wp Tryz.func32 rfl trivial ?_ rfl
      simp only [Tryz.ntmps32, List.size_toArray, List.length_cons, List.length_nil, Nat.reduceAdd, Nat.reduceSub, Array.replicate_succ, Array.replicate_zero, List.push_toArray, List.append_toArray, List.nil_append, List.cons_append]
      gi_wp2_with (refine ⟨trivial, rfl, ?_⟩; gi_at_call 32; refine (HJ1.out.mono HB.out).mono ?_; rintro e W1 (⟨rfl, hK1, ⟨e2, e3, e4, e5, e7⟩, fn, tmps, assign, body, hy, hRd⟩ | ⟨rfl, hJx⟩))
      · refine ⟨rfl, hRd.mono ?_⟩
        rintro e W' (⟨rfl, hJ', hk'⟩ | ⟨rfl, hJx'⟩)
        · have hK2 := hK1.trans hk'
          obtain ⟨_, _, _, _, e7'⟩ := HC.out W' hK2
          have hj2 := HJ2.out W' hK2 hJ'
          clear e2 e3 e4 e5 e7 hy hRd hJ' hk'
          gi_wp2_with (refine ⟨trivial, rfl, ?_⟩; gi_at_call 32; refine hj2.mono ?_; rintro e W2 (⟨rfl, hJ2, hK3⟩ | ⟨rfl, hJx⟩))
          · go_ret
            exact .inl ⟨rfl, by rw [show k0 + (n1 + 1 + n2) = k0 + n1 + 1 + n2 by omega]; exact hJ2, hK3⟩
          · go_ret
            exact .inr ⟨rfl, hJx⟩
        · gi_wp2
          refine ⟨trivial, ?_⟩
          gi_wp2
          go_ret
          exact .inr ⟨rfl, hJx'⟩
      · refine ⟨(fun f h => (by cases h)), ?_⟩
        gi_wp2
        refine ⟨trivial, ?_⟩
        gi_wp2
        go_ret
        exact .inr ⟨rfl, hJx⟩
    · have hfr := from_node_lt hu hlt
      rw [hfr] at hx ⊢
      have hj := ir R k0 W hr2 (up_right hu) hK hx hJ
      have HJ1 := Lib.hid hj
      rw [← less_ltB] at hlt
      clear hj hfr hx hY il ir hA hl hr2 hp hr c0 c1 c6 c7 c2 c3 c4 c5 hu hK hJ
      generalize (ixFrom (Tr.toL r) k).length = n2 at *
      refine callsIn_of_wp Tryz.func32 rfl trivial ?_ rfl
      simp only [Tryz.ntmps32, List.size_toArray, List.length_cons, List.length_nil, Nat.reduceAdd, Nat.reduceSub, Array.replicate_succ, Array.replicate_zero, List.push_toArray, List.append_toArray, List.nil_append, List.cons_append]
      gi_wp2_with (refine ⟨trivial, rfl, ?_⟩; gi_at_call 32; refine HJ1.out.mono ?_; rintro e W1 (⟨rfl, hJ1, hK1⟩ | ⟨rfl, hJx⟩))
      · go_ret
        exact .inl ⟨rfl, hJ1, hK1⟩
      · go_ret
        exact .inr ⟨rfl, hJx⟩
end Go.Proofs.YtcjeddichookmaaGreatDoor
namespace Go.Proofs.YtcjeddichookmaaGreatDoor
open Go.RowKit Go.Sort
set_option linter.unusedVariables false
set_option linter.unusedSimpArgs false
set_option maxRecDepth 100000
theorem range_box {P : Program} {g : Operand} {p : Tmp} {assign body : Code} {Q : Exit → Act → World → Prop} {a : Act} {w : World}
    {gf : Nat} {lb : Array Value} (hg : a.eval g = .func (.func gf) #[] lb) (eg : ∀ args w, (callFunc gf args).run P w = .ok (.enter gf args) w)
    {xs : List Value} {T : World → World → Prop} {lo hI0 : Nat} {w0 : World} (hseq : Iter P gf lb xs T lo hI0 w0) (hb0 : Below w0.heap.size w0 w) (hn : hI0 ≤ w.heap.size)
    (I : Nat → World → Prop) (Ix : Code → World → Prop) (hI : OwnFrom w.heap.size I) (hIx : ∀ c, OwnFrom w.heap.size (fun (_ : Unit) => Ix c)) (h0 : I 0 w)
    (hT : ∀ k W W', I k W → T W W' → I k W') (hTk : ∀ W W', T W W' → KeepsOthers W W') (ob : Value → Obj) (a₁ : Value → Nat → Act)
    (hassign : ∀ (l : Nat) (x : Value) (W : World) (K : Act → World → Prop), x ∈ xs → K (a₁ x W.heap.size) (W.alloc (ob x)) →
      assign.wpIn (Fence.wide.inRound l) 0 P (Exit.then K (fun _ _ _ => False)) { tmps := (#[p].zip #[x]).foldl (fun t (p, v) => t.setIfInBounds p v) a.tmps, defers := [] } W)
    (hbody : ∀ (l k g : Nat) (x : Value) (W : World), xs[k]? = some x → I k W → w.heap.size ≤ g → W.heap[g]? = some (ob x) → body.wpIn (Fence.wide.inRound l) 0 P (roundPostI w.heap.size lo hI0 I Ix (k + 1) W) (a₁ x g) W)
    (hdone : ∀ (D : Nat) (W : World), w.heap.size ≤ D → I xs.length W → W.heap[D]? = some (.deferred (some [])) → Q .normal { a with defers := { target := .collected D, args := #[] } :: a.defers } W)
    (hstop : ∀ (D : Nat) (c : Code) (W : World), w.heap.size ≤ D → Ix c W → W.heap[D]? = some (.deferred (some [])) → c.wpIn Fence.wide 0 P Q { a with defers := { target := .collected D, args := #[] } :: a.defers } W) :
    (Code.rangeFunc g #[p] assign body).wpIn Fence.wide 0 P Q a w := by
  refine wpIn_rangeFunc ?_
  intro fn hfn
  obtain ⟨rec, hrec⟩ : ∃ rec : LoopState → Option Code → Loop, rec = fun st pe => { state := st, pending := pe, fn, tmps := a.tmps, params := #[p], assign, body, defers := w.heap.size } := ⟨_, rfl⟩
  obtain ⟨W1, hW1⟩ : ∃ W1, (w.alloc (.deferred (some []))).alloc (.loop (rec .ready none)) = W1 := ⟨_, rfl⟩
  have hL1 : W1.heap[w.heap.size + 1]? = some (.loop (rec .ready none)) := by
    rw [← hW1]; have := World.alloc_heap_new (w.alloc (.deferred (some []))) (.loop (rec .ready none)); rwa [World.size_alloc] at this
  have hK1 : W1.heap[w.heap.size]? = some (.deferred (some [])) := by
    rw [← hW1]; exact (Below.heap_alloc _ _ _ (by simp)).trans (World.alloc_heap_new w _)
  have hI1 : I 0 W1 := by rw [← hW1]; exact hI.alloc _ (hI.alloc _ h0)
  have hb1 : Below w0.heap.size w0 W1 := by rw [← hW1]; exact balloc (balloc hb0 _) _
  have hbk : ∀ (W : World) (l : Nat) (o : Obj), w.heap.size ≤ l → l < W.heap.size → KeepsIn lo hI0 W (W.putObj l o) := fun W l o h1 h2 k _ hk => World.putObj_heap_other (by omega)
  refine ⟨w.heap.size + 1, [{ target := .collected w.heap.size, args := #[] }], W1, { target := .fn (.func gf) lb, args := #[.func (.yield (w.heap.size + 1)) #[] #[]] }, W1, gf,
    #[.func (.yield (w.heap.size + 1)) #[] #[]] ++ lb, W1, ?_, ?_, ?_, ?_, (fun h => (by cases h)), ?_⟩
  · rw [← hW1, hrec]; exact run_enterLoop_outer _ _ _ _ _
  · simp only [resolve, hg]
    simp [go_sem]
  · intro f' hf'; trivial
  · simp [invoke, go_sem, eg]
  · have hnw : ∀ {A B : World} {row : Option Nat}, (∀ r, row = some r → W1.heap.size ≤ r ∧ ∃ o : Obj, A.heap[r]? = some o ∧ o.isWalk = true) → (∀ r, row = some r → w.heap.size ≤ r ∧ ∃ o : Obj, A.heap[r]? = some o ∧ o.isCells = false) :=
      fun hr r e => by obtain ⟨hB, o, ho, hw⟩ := hr r e; exact ⟨by rw [← hW1] at hB; simp at hB; omega, o, ho, Obj.not_cells_of_walk hw⟩
    refine (hseq (w.heap.size + 1)
      (fun k W => I k W ∧ W.heap[w.heap.size + 1]? = some (.loop (rec .ready none)) ∧ W.heap[w.heap.size]? = some (.deferred (some [])))
      (fun W => ∃ c, Ix c W ∧ W.heap[w.heap.size + 1]? = some (.loop (rec .done (some c))) ∧ W.heap[w.heap.size]? = some (.deferred (some [])))
      W1 hb1
      (fun s A B row hs hg' hr => ⟨hI s A B row hs.1 hg' (hnw (B := B) hr), (grownBy_keeps hg' (fun r e => (hr r e).2) hs.2.1 rfl).trans hs.2.1, (grownBy_keeps hg' (fun r e => (hr r e).2) hs.2.2 rfl).trans hs.2.2⟩)
      (fun k A B hs ht => ⟨hT k A B hs.1 ht, (hTk A B ht).same _ _ hs.2.1 rfl, (hTk A B ht).same _ _ hs.2.2 rfl⟩)
      ?_ ⟨hI1, hL1, hK1⟩).mono ?_
    · rintro k x W hx ⟨hi, hl, hk⟩
      have hlt : w.heap.size + 1 < W.heap.size := (Array.getElem?_eq_some_iff.1 hl).1
      have hy := run_yield (P := P) (args := #[x]) hl (by rw [hrec]; rfl)
      rw [hrec] at hy
      have hla : (W.alloc (ob x)).heap[w.heap.size + 1]? = some (.loop (rec .ready none)) := (heap_alloc_old W (ob x) hlt).trans hl
      have hltk : w.heap.size < W.heap.size := by omega
      have hka : (W.alloc (ob x)).heap[w.heap.size]? = some (.deferred (some [])) := (heap_alloc_old W (ob x) hltk).trans hk
      have hia : I k (W.alloc (ob x)) := hI.alloc _ hi
      have hga : (W.alloc (ob x)).heap[W.heap.size]? = some (ob x) := World.alloc_heap_new W (ob x)
      have hlta : w.heap.size + 1 < (W.alloc (ob x)).heap.size := by rw [World.size_alloc]; omega
      have hwa : KeepsIn lo hI0 W (W.alloc (ob x)) := fun j _ h2 => heap_alloc_old W (ob x) (by omega)
      refine ⟨fn, _, assign, body, hy, roundIn_of_wpIn hfn (hassign _ x W _ (List.mem_of_getElem? hx) ⟨_, run_beginRound hla (by rw [hrec]), ?_⟩)⟩
      generalize hVW : W.alloc (ob x) = V at *
      have hl2 : (V.putObj (w.heap.size + 1) (.loop { rec .ready none with state := .busy })).heap[w.heap.size + 1]? = some (.loop { rec .ready none with state := .busy }) := World.putObj_heap_same hlta
      have hk2 : (V.putObj (w.heap.size + 1) (.loop { rec .ready none with state := .busy })).heap[w.heap.size]? = some (.deferred (some [])) := (World.putObj_heap_other (by omega)).trans hka
      have hg2 : (V.putObj (w.heap.size + 1) (.loop { rec .ready none with state := .busy })).heap[W.heap.size]? = some (ob x) := (World.putObj_heap_other (by omega)).trans hga
      have hw2 : KeepsIn lo hI0 W (V.putObj (w.heap.size + 1) (.loop { rec .ready none with state := .busy })) := hwa.trans (hbk _ _ _ (by omega) hlta)
      refine wpIn_mono (hbody _ k W.heap.size x _ hx (hI.putObj _ hia (by omega) hla rfl) (by omega) hg2) ?_
      have fin : ∀ (jump : Option Code) (W3 : World), KeepsFrom w.heap.size (V.putObj (w.heap.size + 1) (.loop { rec .ready none with state := .busy })) W3 →
          (Instr.endRound (w.heap.size + 1) jump).run P W3 = .ok (.bool jump.isNone) (W3.putObj (w.heap.size + 1) (.loop (rec (if jump.isNone then .ready else .done) jump))) ∧
          W3.heap[w.heap.size + 1]? = some (.loop { rec .ready none with state := .busy }) ∧
          (W3.putObj (w.heap.size + 1) (.loop (rec (if jump.isNone then .ready else .done) jump))).heap[w.heap.size + 1]? = some (.loop (rec (if jump.isNone then .ready else .done) jump)) ∧
          (W3.putObj (w.heap.size + 1) (.loop (rec (if jump.isNone then .ready else .done) jump))).heap[w.heap.size]? = some (.deferred (some [])) := fun jump W3 hk3 => by
        have hl3 := hk3.same _ _ (by omega) hl2 rfl
        have := run_endRound (P := P) jump hl3
        rw [hrec] at this ⊢
        exact ⟨this, by rw [hrec] at hl3; exact hl3, World.putObj_heap_same (Array.getElem?_eq_some_iff.1 hl3).1, (World.putObj_heap_other (by omega)).trans (hk3.same _ _ (Nat.le_refl _) hk2 rfl)⟩
      rintro e a3 W3 hp
      cases e with
      | normal =>
        obtain ⟨hk3, hkp3, hi3⟩ := hp
        obtain ⟨hr, hl3, hl4, hk4⟩ := fin none W3 hk3
        have hlt3 := (Array.getElem?_eq_some_iff.1 hl3).1
        exact ⟨_, _, hr, .inl ⟨rfl, ⟨hI.putObj _ hi3 (by omega) hl3 rfl, hl4, hk4⟩, (hw2.trans hkp3).trans (hbk _ _ _ (by omega) hlt3)⟩⟩
      | ret =>
        obtain ⟨hk3, hi3⟩ := hp
        obtain ⟨hr, hl3, hl4, hk4⟩ := fin (some .ret) W3 hk3
        exact ⟨_, _, hr, .inr ⟨rfl, .ret, (hIx _).putObj (s := ()) _ hi3 (by omega) hl3 rfl, hl4, hk4⟩⟩
      | exit id =>
        obtain ⟨hk3, hi3⟩ := hp
        obtain ⟨hr, hl3, hl4, hk4⟩ := fin (some (.exit id)) W3 hk3
        exact ⟨_, _, hr, .inr ⟨rfl, .exit id, (hIx _).putObj (s := ()) _ hi3 (by omega) hl3 rfl, hl4, hk4⟩⟩
      | goto t =>
        obtain ⟨hk3, hi3⟩ := hp
        obtain ⟨hr, hl3, hl4, hk4⟩ := fin (some (.goto t)) W3 hk3
        exact ⟨_, _, hr, .inr ⟨rfl, .goto t, (hIx _).putObj (s := ()) _ hi3 (by omega) hl3 rfl, hl4, hk4⟩⟩
      | panic ch => exact hp.elim
      | outgrown => exact hp.elim
    · rintro e W2 ⟨⟨v, rfl⟩, (⟨hi, hl, hk⟩ | ⟨c, hi, hl, hk⟩)⟩
      · exact ⟨none, _, by have := run_endLoop (P := P) hl (by rw [hrec]; simp); rw [hrec] at this; exact this, hdone _ _ (Nat.le_refl _) (hI.putObj _ hi (by omega) hl rfl) ((World.putObj_heap_other (by omega)).trans hk)⟩
      · exact ⟨some c, _, by have := run_endLoop (P := P) hl (by rw [hrec]; simp); rw [hrec] at this; exact this, hstop _ c _ (Nat.le_refl _) ((hIx c).putObj (s := ()) _ hi (by omega) hl rfl) ((World.putObj_heap_other (by omega)).trans hk)⟩
end Go.Proofs.YtcjeddichookmaaGreatDoor
namespace Go.Proofs.YtcjeddichookmaaGreatDoor
open Go.RowKit Go.Sort
set_option linter.unusedVariables false
set_option linter.unusedSimpArgs false
set_option maxRecDepth 100000
def itsV (l : List It) : List Value := l.map fun x => .agg #[.string x.k, .string x.t, .int .i64 x.z, .int .i64 x.r]
theorem itsV_at {l : List It} {i : Nat} {x : It} (h : l[i]? = some x) : (itsV l)[i]? = some x.val := by unfold itsV; rw [List.getElem?_map, h]; rfl
theorem itsV_of {l : List It} {i : Nat} {v : Value} (h : (itsV l)[i]? = some v) : ∃ x, l[i]? = some x ∧ v = .agg #[.string x.k, .string x.t, .int .i64 x.z, .int .i64 x.r] := by
  unfold itsV at h
  rw [List.getElem?_map, Option.map_eq_some_iff] at h
  obtain ⟨x, h1, h2⟩ := h
  exact ⟨x, h1, h2.symm⟩
theorem from_any (A : Option Addr) (k : ByteArray) (w : World) : Calls Tryz.prog 15 #[.pointer A, .string k] w fun e w' =>
    e = .returned (.func (.func 31) #[] #[.pointer (some ⟨w.heap.size, 0, none⟩), .pointer (some ⟨w.heap.size + 1, 0, none⟩)]) ∧ w' = (w.alloc (.cells #[.pointer A] 25)).alloc (.cells #[.string k] 9) := by
  go_enter Tryz.func15, Tryz.ntmps15
  go_wp2
  go_ret
  exact ⟨rfl, rfl⟩
set_option maxHeartbeats 2000000 in
theorem from_iter (B1 B2 : Nat) (A : Option Addr) (k : ByteArray) (L : List It) (w0 w : World) (hbw : Below w0.heap.size w0 w) (h1 : w.cell? ⟨B1, 0, none⟩ = some (.pointer A)) (h2 : w.cell? ⟨B2, 0, none⟩ = some (.string k)) (hA : IxAt w0 A L) (hu : UpI L) :
    Iter Tryz.prog 31 #[.pointer (some ⟨B1, 0, none⟩), .pointer (some ⟨B2, 0, none⟩)] (itsV (ixFrom L k)) (fun _ _ => False) 0 w0.heap.size w := by
  intro l J Jx W hW _ hJT hY hJ0
  obtain ⟨t, hn, hL, _⟩ := hA
  have g1 := cell_keep hW h1
  have g2 := cell_keep hW h2
  have hwk := walk_in k w0 l J Jx (itsV (ixFrom L k)) hY t A 0 W hn (by rw [hL]; exact hu) ((Below.keepsIn hbw (Nat.le_refl _)).trans (Below.keepsIn hW hbw.size)) (fun i x hx => by rw [hL] at hx; rw [Nat.zero_add]; exact itsV_at hx) hJ0
  have hlen : (itsV (ixFrom L k)).length = (ixFrom (Tr.toL t) k).length := by rw [hL]; simp [itsV]
  rw [hlen]
  have HW := Lib.hid hwk
  clear hwk hY hJT hJ0 hn hL hu h1 h2 hlen hW hbw
  generalize (ixFrom (Tr.toL t) k).length = n at *
  refine callsIn_of_wp Tryz.func31 rfl trivial ?_ rfl
  simp only [Tryz.ntmps31, List.size_toArray, List.length_cons, List.length_nil, Nat.reduceAdd, Nat.reduceSub, Array.replicate_succ, Array.replicate_zero, List.push_toArray, List.append_toArray, List.nil_append, List.cons_append]
  gi_wp2_with (refine ⟨trivial, rfl, ?_⟩; gi_at_call 32; refine HW.out.mono ?_; rintro e W1 (⟨rfl, hJ1, hK1⟩ | ⟨rfl, hJx⟩))
  · go_end0
    exact ⟨⟨_, rfl⟩, .inl (by rw [Nat.zero_add] at hJ1; exact hJ1)⟩
  · go_end0
    exact ⟨⟨_, rfl⟩, .inr hJx⟩
end Go.Proofs.YtcjeddichookmaaGreatDoor
