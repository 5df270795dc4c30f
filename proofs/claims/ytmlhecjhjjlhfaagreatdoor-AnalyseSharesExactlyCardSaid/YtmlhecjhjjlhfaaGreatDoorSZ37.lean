/- What analyse.example asks of the functions that it calls, and the words that it has made so far. -/
import Derived.Test.YtmlhecjhjjlhfaaGreatDoorSZ35
import Derived.Test.YtmlhecjhjjlhfaaGreatDoorSZ31
import Derived.Test.YtmlhecjhjjlhfaaGreatDoorSZ10
import Derived.Test.YtmlhecjhjjlhfaaGreatDoorSZ1
import Derived.Laws.Rows
import Derived.Laws.Tables
import Derived.Laws.CopyOwn
import Derived.Test.YtmlhecjhjjlhfaaGreatDoorProg
import Derived.WalkKit
import Derived.WalkSpells
import Derived.WalkLawsBesides
import Derived.Below
import Derived.Deep.QuietTactic
import Derived.BigQuiet
import Derived.Lib.QuietBelow
import Derived.Lib.Strings
import Derived.Lib.Hide
import Derived.Deep.RegionWith
import Derived.Deep.RegionHeld3
import Derived.Lib.IndexBytes
import Derived.Test.YtmlhecjhjjlhfaaGreatDoorSZ4
import Derived.OwnWalk
import Derived.Maps.AppendAt
import Derived.Test.YtmlhecjhjjlhfaaGreatDoorSZ16
import Derived.Test.YtmlhecjhjjlhfaaGreatDoorSZ7
import Derived.Test.YtmlhecjhjjlhfaaGreatDoorSZ30
import Derived.Test.YtmlhecjhjjlhfaaGreatDoorSZ32
import Derived.Deep.DeepCutAuto
import Derived.Test.YtmlhecjhjjlhfaaGreatDoorSZ25
import Derived.Test.YtmlhecjhjjlhfaaGreatDoorSZ29
import Derived.Test.YtmlhecjhjjlhfaaGreatDoorSZ13
import Derived.Test.YtmlhecjhjjlhfaaGreatDoorSZ24
import Derived.Test.YtmlhecjhjjlhfaaGreatDoorSZ18
import Derived.Test.YtmlhecjhjjlhfaaGreatDoorSZ17
import Derived.Test.YtmlhecjhjjlhfaaGreatDoorSZ3
import Derived.Test.YtmlhecjhjjlhfaaGreatDoorSZ15
import Derived.Test.YtmlhecjhjjlhfaaGreatDoorSZ36
import Derived.Test.YtmlhecjhjjlhfaaGreatDoorSZ26
import Derived.Test.YtmlhecjhjjlhfaaGreatDoorSZ28
import Derived.Test.YtmlhecjhjjlhfaaGreatDoorSZ33
namespace Go.Proofs.YtmlhecjhjjlhfaaGreatDoor
open Go.RowKit Go.Sort
set_option linter.unusedVariables false
set_option linter.unusedSimpArgs false
set_option maxRecDepth 100000
open Go.Maps
theorem splitOwn_any (s : ByteArray) (c : UInt8) (w : World) (hs : s.size ≤ 1000000) (hE : Env w) : Calls Tryz.prog 63 #[.string s, .string ⟨#[c]⟩] w fun e w' => e = .returned (.slice (some ⟨w.heap.size, 0, none⟩) (splitB c s).length (splitB c s).length) ∧ w'.ownsRow w.heap.size 9 1 (.slice (some ⟨w.heap.size, 0, none⟩) (splitB c s).length (splitB c s).length) (splitB c s).length ((splitB c s).map .string) ∧ Below w.heap.size w w' := by
  obtain ⟨m, hm⟩ := hE
  refine (Tryz.strings_Split s ⟨#[c]⟩ m w (by omega) hm (show 1 ≤ 1 from Nat.le_refl _)).mono ?_
  rintro e w' ⟨rfl, rfl⟩
  have he := split_eq c _ s rfl
  have hl := count_split c s
  rw [he, hl]
  refine ⟨rfl, ?_, balloc (Below.refl _ _) _⟩
  have hlen : (splitB c s).length ≤ s.size + 1 := splitB_num c s
  have h := World.ownsRow_lit (base := w.heap.size) (e := 9) (size := 1) w ((splitB c s).map Value.string).toArray (splitB c s).length (Nat.le_refl _) (by unfold maxLen; omega) (by simp)
  simpa using h
theorem contains_any (A : Option Addr) (n c : Nat) (ps : List ByteArray) (tag : ByteArray) (W : World) (hR : Reads W 1 A n (ps.map .string)) (hn : n ≤ 1000000) : Calls Tryz.prog 73 #[.slice A n c, .string tag] W (Ret W (.bool (Lib.containsS ps tag))) := by
  have hl : ps.length = n := by have := hR.1; simpa using this
  subst hl
  by_cases h0 : ps = []
  · subst h0
    refine (Tryz.slices_Contains_string_empty A c tag W).mono ?_
    rintro e w' ⟨rfl, rfl⟩
    exact ⟨rfl, Below.refl _ _⟩
  · obtain ⟨b, o, rfl, hc⟩ := hR.2 (List.length_pos_iff.2 h0)
    have := Tryz.slices_Contains_string b o ps.length c ps tag W (Nat.le_refl _) (by omega) (fun j hj => by
      refine hc j _ ?_
      rw [List.getElem?_map, List.getElem?_eq_getElem hj]
      simp [List.getD_eq_getElem?_getD, List.getElem?_eq_getElem hj])
    refine this.mono ?_
    rintro e w' ⟨rfl, rfl⟩
    rw [List.take_length]
    exact ⟨rfl, Below.refl _ _⟩
def SpV (q : ByteArray) : Value → World → Prop := fun v W => ∃ g, v = .slice (some ⟨g, 0, none⟩) (splitB 47 q).length (splitB 47 q).length ∧ Reads W 1 (some ⟨g, 0, none⟩) (splitB 47 q).length ((splitB 47 q).map .string)
theorem keeps_sp (q : ByteArray) : Keeps (SpV q) := fun _ _ _ ⟨g, e, hr⟩ hb => ⟨g, e, hr.keep hb⟩
theorem ex1_any (q x : ByteArray) (b : Nat) (w : World) (hc : w.cell? ⟨b, 0, none⟩ = some (.string x)) (hq : q.size ≤ 100000) (hE : Env w) : Calls Tryz.prog 141 #[.string q, .pointer (some ⟨b, 0, none⟩)] w (Ret w (.bool (Lib.containsS (splitB 47 q) x))) := by
  have cS := fun W (hb : Below w.heap.size w W) => strSplit_any q 47 W (by omega) (Env.keep hE hb)
  have cK := fun A n c W hR hn => contains_any A n c (splitB 47 q) x W hR hn
  have hnum := splitB_num 47 q
  generalize Lib.containsS (splitB 47 q) x = v at *
  have HS := Lib.hid cS; have HK := Lib.hid cK; have HNUM := Lib.hid hnum
  clear cS cK hnum
  go_enter Tryz.func141, Tryz.ntmps141
  go_upto_region 1 with fail
  refine wp_detD 4 (by kernel_rfl) (by kernel_rfl) (by kernel_rfl) (DL [IsV (.string q), SpV q, IsV (.string x), IsV (.bool v)]) (DL.keep _ ⟨keeps_is _, keeps_sp _, keeps_is _, keeps_is _, trivial⟩) (fun W => Below w.heap.size w W ∧ W.cell? ⟨b, 0, none⟩ = some (.string x)) ⟨Below.drew (Below.refl _ _), hc⟩ (fun _ _ h hb => ⟨bstep h.1 hb, cell_keep hb h.2⟩) ?_ ?_
  · dsimp only [List.take_succ_cons, List.take_zero, DetD]
    refine ⟨fun vals W hS hd => ?_, fun vals W hS hd => ?_, fun vals W hS hd => ?_, fun vals W hS hd => ?_, trivial⟩
    · (try simp only [DepsL, DL, IsV, List.getD_cons_zero, List.getD_cons_succ, Region.binds, and_true, true_and] at hd)
      simp only [putL, List.take_succ_cons, List.take_zero, List.drop_succ_cons, List.drop_zero, Act.put, List.setIfInBounds_toArray, List.set_cons_succ, List.set_cons_zero, List.getD_cons_zero, List.getD_cons_succ]
      clear hd
      go_wp2
      exact ⟨rfl, rfl, rfl, belB⟩
    · (try simp only [DepsL, DL, IsV, List.getD_cons_zero, List.getD_cons_succ, Region.binds, and_true, true_and] at hd)
      simp only [putL, List.take_succ_cons, List.take_zero, List.drop_succ_cons, List.drop_zero, Act.put, List.setIfInBounds_toArray, List.set_cons_succ, List.set_cons_zero, List.getD_cons_zero, List.getD_cons_succ]
      (try simp only [hd])
      clear hd
      go_wp2_with (go_at_call 63; refine (HS.out W hS.1).mono ?_; rintro e w2 ⟨rfl, hR2, hb2⟩)
      exact ⟨rfl, ⟨_, rfl, hR2⟩, rfl, hb2⟩
    · (try simp only [DepsL, DL, IsV, List.getD_cons_zero, List.getD_cons_succ, Region.binds, and_true, true_and] at hd)
      simp only [putL, List.take_succ_cons, List.take_zero, List.drop_succ_cons, List.drop_zero, Act.put, List.setIfInBounds_toArray, List.set_cons_succ, List.set_cons_zero, List.getD_cons_zero, List.getD_cons_succ]
      clear hd
      have cc := hS.2
      go_wp2
      exact ⟨rfl, rfl, rfl, belB⟩
    · (try simp only [DepsL, DL, IsV, List.getD_cons_zero, List.getD_cons_succ, Region.binds, and_true, true_and] at hd)
      obtain ⟨⟨g, e1, hR1⟩, e2⟩ := hd
      simp only [putL, List.take_succ_cons, List.take_zero, List.drop_succ_cons, List.drop_zero, Act.put, List.setIfInBounds_toArray, List.set_cons_succ, List.set_cons_zero, List.getD_cons_zero, List.getD_cons_succ]
      simp only [e1, e2]
      go_wp2_with (go_at_call 73; refine (HK.out _ _ _ W hR1 (by have := HNUM.out; omega)).mono ?_; rintro e w2 ⟨rfl, hb2⟩)
      exact ⟨rfl, rfl, rfl, hb2⟩
  · intro vals w9 hS9 hD
    have e3 : vals 3 = .bool v := hD 3 (by omega)
    simp only [putL, List.take_succ_cons, List.take_zero, List.drop_succ_cons, List.drop_zero, Act.put, List.setIfInBounds_toArray, List.set_cons_succ, List.set_cons_zero, List.getD_cons_zero, List.getD_cons_succ]
    simp only [e3]
    have hbE := hS9.1
    clear hD
    go_wp2
    go_ret
    exact ⟨rfl, hbE⟩
theorem named_has (bs : List ByteArray) (x : ByteArray) : (bs.any fun q => Lib.containsS (splitB 47 q) x) = hasN (namedL bs).reverse x := by
  rw [Bool.eq_iff_iff, List.any_eq_true, hasN_iff, List.mem_reverse]
  unfold namedL
  rw [List.mem_flatMap]
  exact exists_congr fun q => and_congr_right fun _ => Lib.containsS_iff _ _
theorem anyNamed_any (A : Option Addr) (n c : Nat) (bs : List ByteArray) (x : ByteArray) (b : Nat) (w : World) (hR : Reads w 1 A n (bs.map .string)) (hn : n ≤ 1000) (hs : ∀ q ∈ bs, q.size ≤ 100000) (hc : w.cell? ⟨b, 0, none⟩ = some (.string x)) (hE : Env w) :
    Calls Tryz.prog 34 #[.slice A n c, .func (.func 141) #[] #[.pointer (some ⟨b, 0, none⟩)]] w (Ret w (.bool (hasN (namedL bs).reverse x))) := by
  rw [← named_has]
  exact containsFuncC_any 141 (enters_of Tryz.func141 (by kernel_rfl) rfl) (.pointer (some ⟨b, 0, none⟩)) (fun q => Lib.containsS (splitB 47 q) x) A n c bs w (fun y hy W hb => ex1_any y x b W (cell_keep hb hc) (hs y hy) (Env.keep hE hb)) hR (by omega)
end Go.Proofs.YtmlhecjhjjlhfaaGreatDoor
namespace Go.Proofs.YtmlhecjhjjlhfaaGreatDoor
open Go.RowKit Go.Sort
set_option linter.unusedVariables false
set_option linter.unusedSimpArgs false
set_option maxRecDepth 100000
set_option maxHeartbeats 8000000 in
theorem rFew22_tail (x : RuleM) (w : World) (hR : RuleReads w x) (hgood : (decide (x.r.name.size ≤ 200) && decide (x.r.pat.size ≤ 200) && decide (x.r.prog.size ≤ 200) && decide (x.r.tags.length ≤ 10) && decide (x.r.vary.length ≤ 10) && fewCR x.r.allow) = true) :
    Calls Tryz.prog 22 #[x.val] w (Ret w (.bool (x.r.tags.all (fun x : ByteArray => decide (x.size ≤ 200)) && x.r.vary.all fewVy))) := by
  have cF := fun W (hb : Below w.heap.size w W) => rFew_any x.r.allow.fr x.r.allow.till x.r.allow.us x.r.allow.pat x.m.A x.m.B x.m.S x.r.allow.cl.length x.m.ca x.r.allow.co.length x.m.cb x.r.allow.si.length x.m.cs x.r.allow.cl x.r.allow.co W (hR.allow.cl.keep hb) (hR.allow.co.keep hb)
  have hfc : fewC x.r.allow.cl.length x.r.allow.co.length x.r.allow.si.length x.r.allow.pat x.r.allow.cl x.r.allow.co = fewCR x.r.allow := rfl
  rw [hfc] at cF
  generalize fewCR x.r.allow = fc at *
  simp only [Bool.and_eq_true, decide_eq_true_eq] at hgood
  obtain ⟨⟨⟨⟨⟨h0, h1⟩, h2⟩, h3⟩, h4⟩, rfl⟩ := hgood
  have d0 : decide ((200 : Int) < (x.r.name.size : Int)) = false := decide_eq_false (by omega)
  have d1 : decide ((200 : Int) < (x.r.pat.size : Int)) = false := decide_eq_false (by omega)
  have d2 : decide ((200 : Int) < (x.r.prog.size : Int)) = false := decide_eq_false (by omega)
  have d3 : decide ((10 : Int) < (x.r.tags.length : Int)) = false := decide_eq_false (by omega)
  have d4 : decide ((10 : Int) < (x.r.vary.length : Int)) = false := decide_eq_false (by omega)
  obtain ⟨V, hV⟩ : ∃ V, V = (x.r.tags.all (fun x : ByteArray => decide (x.size ≤ 200)) && x.r.vary.all fewVy) := ⟨_, rfl⟩
  rw [← hV]
  rw [RuleM.val_eq]
  have hA := hR.tags
  have hsame := hR.same
  have HF := Lib.hid cF; have HV := Lib.hid hV; have HA := Lib.hid hA; have HR := Lib.hid hR; have HSM := Lib.hid hsame
  have hvl : x.L.length = x.r.vary.length := by rw [← hsame, List.length_map]
  have HVL := Lib.hid hvl
  clear cF hR hfc hV hA hsame hvl h0 h1 h2
  go_enter Tryz.func22, Tryz.ntmps22
  go_wp2_with (go_at_call 51; refine (HF.out _ belB).mono ?_; rintro e w2 ⟨rfl, hb2⟩; have y2 : w2.cell? ⟨w.heap.size, 2, none⟩ = some (.slice x.T x.r.tags.length x.ct) := cell_keep hb2 ((cell_of_row _ _ 2 _ _ _ (heap_alloc_new w _)).trans rfl); have y7 : w2.cell? ⟨w.heap.size, 7, none⟩ = some (.slice x.V x.r.vary.length x.cv) := cell_keep hb2 ((cell_of_row _ _ 7 _ _ _ (heap_alloc_new w _)).trans rfl))
  have hbw2 : Below w.heap.size w w2 := belB
  clear d0 d1 d2 d3 d4 HF
  obtain ⟨n, hn⟩ : ∃ n, n = x.r.tags.length := ⟨_, rfl⟩
  obtain ⟨m, hm⟩ : ∃ m, m = x.r.vary.length := ⟨_, rfl⟩
  rw [← hn] at y2 HA h3
  rw [← hm] at y7 h4 HVL
  have HN := Lib.hid hn; have HMM := Lib.hid hm
  clear hn hm
  go_loopw [3] (fun vi wr => ∃ k : Nat, vi = .int .i64 k ∧ k ≤ n ∧ Hid ((x.r.tags.take k).all (fun x : ByteArray => decide (x.size ≤ 200)) = true) ∧ wr.cell? ⟨w.heap.size, 2, none⟩ = some (.slice x.T n x.ct) ∧ wr.cell? ⟨w.heap.size, 7, none⟩ = some (.slice x.V m x.cv) ∧ Below w.heap.size w wr ∧ w.heap.size < wr.heap.size) (fun i _ => n - (intOf i).toNat)
  case atStart => exact ⟨0, rfl, Nat.zero_le _, Lib.hid (by simp), y2, y7, hbw2, cell_lt y2⟩
  case round =>
    clear y2 y7 hbw2 hb2
    obtain ⟨k, rfl, hk, HK, y2, y7, hbr, hgr⟩ := hrel
    by_cases hlt : k < n
    · obtain ⟨t, ht⟩ : ∃ t, x.r.tags[k]? = some t := ⟨_, List.getElem?_eq_getElem (by have := HN.out; omega)⟩
      obtain ⟨b, o, hT, hcell⟩ := (HA.out.keep hbr).2 (by omega)
      rw [hT] at y2
      have hc1 : wr.cell? ⟨b, o + k, none⟩ = some (.string t) := hcell k _ (by simp [ht])
      have hk0 : (0 : Int) ≤ (k : Int) := by omega
      have hk1 : (k : Int) < (n : Int) := by omega
      by_cases hs : t.size ≤ 200
      · have HK2 : Hid ((x.r.tags.take (k + 1)).all (fun x : ByteArray => decide (x.size ≤ 200)) = true) := Lib.hid (all_take2 HK.out ht (by simpa using hs))
        have d5 : decide ((200 : Int) < (t.size : Int)) = false := decide_eq_false (by omega)
        have HTT := Lib.hid hT
        clear hcell ht HK hT
        go_wp2
        exact ⟨⟨k + 1, by go_num, by omega, HK2, by rw [HTT.out]; exact y2, y7, hbr, hgr⟩, by simp [intOf]; omega⟩
      · obtain rfl : V = false := by rw [HV.out, all_false2 ht (by simpa using hs)]; rfl
        have d5 : decide ((200 : Int) < (t.size : Int)) = true := decide_eq_true (by omega)
        clear hcell ht HK hT
        go_wp2
        go_ret
        exact ⟨rfl, hbr⟩
    · obtain rfl : k = n := by omega
      have hall : x.r.tags.all (fun x : ByteArray => decide (x.size ≤ 200)) = true := by
        have := HK.out
        rwa [List.take_of_length_le (by have := HN.out; omega)] at this
      have hv3 : V = x.r.vary.all fewVy := by rw [HV.out, hall, Bool.true_and]
      have HV2 := Lib.hid hv3
      clear hall hv3 HK HV
      go_wp2
      obtain ⟨wo, rfl⟩ : ∃ wo : World, wo = wr := ⟨_, rfl⟩
      clear y2 HA
      go_loopw [4] (fun vi wz => ∃ j : Nat, vi = .int .i64 j ∧ j ≤ m ∧ Hid ((x.r.vary.take j).all fewVy = true) ∧ wz.cell? ⟨w.heap.size, 7, none⟩ = some (.slice x.V m x.cv) ∧ Below w.heap.size w wz ∧ w.heap.size < wz.heap.size) (fun i _ => m - (intOf i).toNat)
      case atStart => exact ⟨0, rfl, Nat.zero_le _, Lib.hid (by simp), y7, hbr, hgr⟩
      case round =>
        clear y7 hbr hgr
        obtain ⟨j, rfl, hj, HJ, y7, hbr, hgr⟩ := hrel
        by_cases hlt2 : j < m
        · obtain ⟨y, hy⟩ : ∃ y, x.L[j]? = some y := ⟨_, List.getElem?_eq_getElem (by have := HVL.out; omega)⟩
          have hxv : x.r.vary[j]? = some y.v := by rw [← HSM.out, List.getElem?_map, hy]; rfl
          obtain ⟨b, o, hVV, hcell⟩ := Reads.row (HR.out.vary.keep hbr) (fun a _ => a.cells_len) (by have := HVL.out; have := HMM.out; omega) hy
          have hyr := (HR.out.each y (List.mem_of_getElem? hy))
          rw [hVV] at y7
          have e0 : wr.cell? ⟨b, o + j * 3, none⟩ = some (.string y.v.header) := hcell 0 _ rfl
          have e1 : wr.cell? ⟨b, o + j * 3 + 1, none⟩ = some (.slice y.A y.v.values.length y.c) := hcell 1 _ rfl
          have e2 : wr.cell? ⟨b, o + j * 3 + 2, none⟩ = some (.string y.v.dflt) := hcell 2 _ rfl
          have hj0 : (0 : Int) ≤ (j : Int) := by omega
          have hj1 : (j : Int) < (m : Int) := by omega
          have HYR := Lib.hid hyr; have HVV := Lib.hid hVV
          clear hcell hy hyr hVV
          by_cases g0 : y.v.header.size ≤ 200
          rotate_left
          · obtain rfl : V = false := by rw [HV2.out, all_false2 hxv (by simp [fewVy, g0])]
            have dg0 : decide ((200 : Int) < (y.v.header.size : Int)) = true := decide_eq_true (by omega)
            clear HJ hxv
            go_wp2
            go_ret
            exact ⟨rfl, belB⟩
          have dg0 : decide ((200 : Int) < (y.v.header.size : Int)) = false := decide_eq_false (by omega)
          by_cases g1 : y.v.dflt.size ≤ 200
          rotate_left
          · obtain rfl : V = false := by rw [HV2.out, all_false2 hxv (by simp [fewVy, g1])]
            have dg1 : decide ((200 : Int) < (y.v.dflt.size : Int)) = true := decide_eq_true (by omega)
            clear HJ hxv
            go_wp2
            go_ret
            exact ⟨rfl, belB⟩
          have dg1 : decide ((200 : Int) < (y.v.dflt.size : Int)) = false := decide_eq_false (by omega)
          by_cases g2 : y.v.values.length ≤ 10
          rotate_left
          · obtain rfl : V = false := by rw [HV2.out, all_false2 hxv (by simp [fewVy, g2])]
            have dg2 : decide ((10 : Int) < (y.v.values.length : Int)) = true := decide_eq_true (by omega)
            clear HJ hxv
            go_wp2
            go_ret
            exact ⟨rfl, belB⟩
          have dg2 : decide ((10 : Int) < (y.v.values.length : Int)) = false := decide_eq_false (by omega)
          have HXV := Lib.hid hxv
          clear hxv
          go_wp2
          obtain ⟨wv, hwv⟩ : ∃ wv : World, wv = wr := ⟨_, rfl⟩
          have z7 : (wr.alloc (.cells #[.string y.v.header, .slice y.A y.v.values.length y.c, .string y.v.dflt] 83)).cell? ⟨w.heap.size, 7, none⟩ = some (.slice (some ⟨b, o, none⟩) m x.cv) := cell_keep ((Below.refl wr.heap.size wr).alloc (Nat.le_refl _) _) y7
          have z1 : (wr.alloc (.cells #[.string y.v.header, .slice y.A y.v.values.length y.c, .string y.v.dflt] 83)).cell? ⟨wr.heap.size, 1, none⟩ = some (.slice y.A y.v.values.length y.c) := (cell_of_row _ _ 1 _ _ _ (heap_alloc_new wr _)).trans rfl
          have hb3 : Below w.heap.size w (wr.alloc (.cells #[.string y.v.header, .slice y.A y.v.values.length y.c, .string y.v.dflt] 83)) := belB
          clear e0 e1 e2 dg0 dg1 dg2 y7
          generalize hg : wr.heap.size = g at *
          have hgg : w.heap.size < g := hgr
          obtain ⟨q, hq⟩ : ∃ q, q = y.v.values.length := ⟨_, rfl⟩
          rw [← hq] at z1 z7 hb3 g2 ⊢
          have HQ := Lib.hid hq
          clear hq
          go_loopw [6] (fun vi wy => ∃ i : Nat, vi = .int .i64 i ∧ i ≤ q ∧ Hid ((y.v.values.take i).all (fun x : ByteArray => decide (x.size ≤ 200)) = true) ∧ wy.cell? ⟨w.heap.size, 7, none⟩ = some (.slice (some ⟨b, o, none⟩) m x.cv) ∧ wy.cell? ⟨g, 1, none⟩ = some (.slice y.A q y.c) ∧ Below w.heap.size w wy) (fun i _ => q - (intOf i).toNat)
          case atStart => exact ⟨0, rfl, Nat.zero_le _, Lib.hid (by simp), z7, z1, hb3⟩
          case round =>
            clear z7 z1 hb3 hbr
            obtain ⟨i, rfl, hi, HK3, z7, z1, hbr⟩ := hrel
            by_cases hlt3 : i < q
            · obtain ⟨t, ht⟩ : ∃ t, y.v.values[i]? = some t := ⟨_, List.getElem?_eq_getElem (by have := HQ.out; omega)⟩
              obtain ⟨b3, o3, hYA, hcell⟩ := (Reads.keep HYR.out hbr).2 (by have := HQ.out; omega)
              rw [hYA] at z1
              have hc1 : wr.cell? ⟨b3, o3 + i, none⟩ = some (.string t) := hcell i _ (by simp [ht])
              have hi0 : (0 : Int) ≤ (i : Int) := by omega
              have hi1 : (i : Int) < (q : Int) := by omega
              by_cases hs : t.size ≤ 200
              · have HK4 : Hid ((y.v.values.take (i + 1)).all (fun x : ByteArray => decide (x.size ≤ 200)) = true) := Lib.hid (all_take2 HK3.out ht (by simpa using hs))
                have d5 : decide ((200 : Int) < (t.size : Int)) = false := decide_eq_false (by omega)
                have HTT := Lib.hid hYA
                clear hcell ht HK3 hYA
                go_wp2
                exact ⟨⟨i + 1, by go_num, by omega, HK4, z7, by rw [HTT.out]; exact z1, hbr⟩, by simp [intOf]; omega⟩
              · obtain rfl : V = false := by rw [HV2.out, all_false2 HXV.out (by simp [fewVy, all_false2 ht (p := (fun x : ByteArray => decide (x.size ≤ 200))) (by simpa using hs)])]
                have d5 : decide ((200 : Int) < (t.size : Int)) = true := decide_eq_true (by omega)
                clear hcell ht HK3 hYA
                go_wp2
                go_ret
                exact ⟨rfl, hbr⟩
            · obtain rfl : i = q := by omega
              have hall : y.v.values.all (fun x : ByteArray => decide (x.size ≤ 200)) = true := by
                have := HK3.out
                rwa [List.take_of_length_le (by have := HQ.out; omega)] at this
              have hfv : fewVy y.v = true := by
                unfold fewVy
                rw [hall]
                have := HQ.out
                simp [g0, g1, ← HQ.out, g2]
              have HJ2 : Hid ((x.r.vary.take (j + 1)).all fewVy = true) := Lib.hid (all_take2 HJ.out HXV.out hfv)
              clear hall hfv HK3
              go_wp2
              exact ⟨⟨j + 1, by go_num, by omega, HJ2, by rw [HVV.out]; exact z7, hbr, cell_lt z7⟩, by simp [intOf]; omega⟩
        · obtain rfl : j = m := by omega
          have hall : x.r.vary.all fewVy = true := by
            have := HJ.out
            rwa [List.take_of_length_le (by have := HMM.out; omega)] at this
          obtain rfl : V = true := by rw [HV2.out, hall]
          clear hall HJ
          go_wp2
          go_ret
          exact ⟨rfl, hbr⟩
theorem rFew22_any (x : RuleM) (w : World) (hR : RuleReads w x) : Calls Tryz.prog 22 #[x.val] w (Ret w (.bool (fewR x.r))) := by
  unfold fewR
  cases hc : (decide (x.r.name.size ≤ 200) && decide (x.r.pat.size ≤ 200) && decide (x.r.prog.size ≤ 200) && decide (x.r.tags.length ≤ 10) && decide (x.r.vary.length ≤ 10) && fewCR x.r.allow)
  · rw [Bool.false_and, Bool.false_and]; exact rFew22_head x w hR hc
  · rw [Bool.true_and]; exact rFew22_tail x w hR hc
end Go.Proofs.YtmlhecjhjjlhfaaGreatDoor
namespace Go.Proofs.YtmlhecjhjjlhfaaGreatDoor
open Go.RowKit Go.Sort
set_option linter.unusedVariables false
set_option linter.unusedSimpArgs false
set_option maxRecDepth 100000
def openC : CondV := ⟨0, 1099511627777, ⟨#[]⟩, [], [], [], 0⟩
def rOne (sg : Bool) : RuleV := ⟨(⟨#[114, 49]⟩ : ByteArray), (⟨#[97, 99, 109, 101, 47, 110, 101, 119, 115, 47, 42, 42]⟩ : ByteArray), [(⟨#[104, 111, 116]⟩ : ByteArray)], 10, 0, 0, 0, [], openC, sg, 0, ⟨#[]⟩⟩
def rTwo (sg : Bool) : RuleV := ⟨(⟨#[114, 50]⟩ : ByteArray), (⟨#[97, 99, 109, 101, 47, 42, 42]⟩ : ByteArray), [], 100, 50, 1000, 5, [], openC, sg, 0, ⟨#[]⟩⟩
def mOne (T : Nat) (sg : Bool) : RuleM := ⟨rOne sg, some ⟨T, 0, none⟩, 1, none, 0, [], ⟨none, 0, none, 0, none, 0⟩⟩
def mTwo (sg : Bool) : RuleM := ⟨rTwo sg, none, 0, none, 0, [], ⟨none, 0, none, 0, none, 0⟩⟩
theorem ex_reads {W : World} {g T : Nat} {sg : Bool} (hr : RowV W g 38 (exOne T false ++ exTwo sg)) (ht : RowV W T 9 [.string (⟨#[104, 111, 116]⟩ : ByteArray)]) : RulesRead W (some ⟨g, 0, none⟩) 2 [mOne T false, mTwo sg] := by
  refine ⟨rfl, ⟨rfl, fun _ => ⟨g, 0, rfl, fun j u hu => ?_⟩⟩, ?_⟩
  · rw [Nat.zero_add]
    exact RowV.cell hr hu
  · intro x hx
    simp only [List.mem_cons, List.not_mem_nil, or_false] at hx
    rcases hx with rfl | rfl
    · exact ⟨⟨rfl, fun _ => ⟨T, 0, rfl, fun j u hu => by rw [Nat.zero_add]; exact RowV.cell ht hu⟩⟩, Reads.nil_ _ _ _, rfl, fun y hy => (by cases hy), ⟨Reads.nil_ _ _ _, Reads.nil_ _ _ _, Reads.nil_ _ _ _⟩⟩
    · exact ⟨Reads.nil_ _ _ _, Reads.nil_ _ _ _, rfl, fun y hy => (by cases hy), ⟨Reads.nil_ _ _ _, Reads.nil_ _ _ _, Reads.nil_ _ _ _⟩⟩
theorem m1 : matchB (⟨#[97, 99, 109, 101, 47, 110, 101, 119, 115, 47, 42, 42]⟩ : ByteArray) (⟨#[97, 99, 109, 101, 47, 110, 101, 119, 115, 47, 97]⟩ : ByteArray) = true := by decide +kernel
theorem m2 : matchB (⟨#[97, 99, 109, 101, 47, 42, 42]⟩ : ByteArray) (⟨#[97, 99, 109, 101, 47, 110, 101, 119, 115, 47, 97]⟩ : ByteArray) = true := by decide +kernel
theorem m3 : matchB (⟨#[97, 99, 109, 101, 47, 110, 101, 119, 115, 47, 42, 42]⟩ : ByteArray) (⟨#[97, 99, 109, 101]⟩ : ByteArray) = false := by decide +kernel
end Go.Proofs.YtmlhecjhjjlhfaaGreatDoor
namespace Go.Proofs.YtmlhecjhjjlhfaaGreatDoor
open Go.RowKit Go.Sort
set_option linter.unusedVariables false
set_option linter.unusedSimpArgs false
set_option maxRecDepth 100000
def exPol (g : Nat) : Array Value := #[.string (⟨#[97, 99, 109, 101]⟩ : ByteArray), .int .i64 9, .slice (some ⟨g, 0, none⟩) 2 2]
structure PolAt (g T pb : Nat) (sg : Bool) (W : World) : Prop where
  row : RowV W g 38 (exOne T false ++ exTwo sg)
  tags : RowV W T 9 [.string (⟨#[104, 111, 116]⟩ : ByteArray)]
  p : Box1 W pb 42 (exPol g)
theorem PolAt.keep {g T pb : Nat} {sg : Bool} {W W' : World} (h : PolAt g T pb sg W) (hb : Below W.heap.size W W') : PolAt g T pb sg W' := ⟨h.row.keep hb, h.tags.keep hb, h.p.keep hb⟩
theorem PolAt.reads {g T pb : Nat} {sg : Bool} {W : World} (h : PolAt g T pb sg W) : RulesRead W (some ⟨g, 0, none⟩) 2 [mOne T false, mTwo sg] := ex_reads h.row h.tags
end Go.Proofs.YtmlhecjhjjlhfaaGreatDoor
namespace Go.Proofs.YtmlhecjhjjlhfaaGreatDoor
open Go.RowKit Go.Sort
set_option linter.unusedVariables false
set_option linter.unusedSimpArgs false
set_option maxRecDepth 100000
structure SanS (w : World) (g T pb : Nat) (W : World) : Prop where
  a : PolAt g T pb false W
  b : Below w.heap.size w W
theorem SanS.keep {w W W' : World} {g T pb : Nat} (h : SanS w g T pb W) (hb : Below W.heap.size W W') : SanS w g T pb W' := ⟨h.a.keep hb, bstep h.b hb⟩
end Go.Proofs.YtmlhecjhjjlhfaaGreatDoor
namespace Go.Proofs.YtmlhecjhjjlhfaaGreatDoor
open Go.RowKit Go.Sort
set_option linter.unusedVariables false
set_option linter.unusedSimpArgs false
set_option maxRecDepth 100000
theorem fewR_fits {r : RuleV} (h : fewR r = true) : RuleFits r := by
  unfold fewR at h
  simp only [Bool.and_eq_true, decide_eq_true_eq, List.all_eq_true] at h
  obtain ⟨⟨⟨⟨⟨⟨⟨h1, h2⟩, h3⟩, h4⟩, h5⟩, h6⟩, h7⟩, h8⟩ := h
  refine ⟨h1, h2, h3, h4, fun s hs => by simpa using h7 s hs, h5, fun y hy => ?_, few_fits h6⟩
  have h9 := h8 y hy
  unfold fewVy at h9
  simp only [Bool.and_eq_true, decide_eq_true_eq, List.all_eq_true] at h9
  obtain ⟨⟨⟨a1, a2⟩, a3⟩, a4⟩ := h9
  exact ⟨a1, a2, a3, fun s hs => by simpa using a4 s hs⟩
end Go.Proofs.YtmlhecjhjjlhfaaGreatDoor
