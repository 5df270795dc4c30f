/- What the specification's Split, HasTag and SameList return. -/
import Derived.Test.YtjhlpkhfdghngaaGreatDoorXZ7
import Derived.Test.YtjhlpkhfdghngaaGreatDoorXZ4
import Derived.Test.YtjhlpkhfdghngaaGreatDoorProg
import Derived.WalkKit
import Derived.WalkSpells
import Derived.WalkLawsBesides
import Derived.Below
import Derived.Deep.QuietTactic
import Derived.BigQuiet
import Derived.Lib.QuietBelow
import Derived.Lib.Strings
import Derived.Lib.Hide
import Derived.Deep.RegionWith
import Derived.Deep.RegionHeld3
import Derived.Lib.IndexBytes
import Derived.Test.YtjhlpkhfdghngaaGreatDoorXZ6
import Derived.Test.YtjhlpkhfdghngaaGreatDoorXZ8
import Derived.Deep.DeepCutAuto
import Derived.Test.YtjhlpkhfdghngaaGreatDoorXZ9
import Derived.Test.YtjhlpkhfdghngaaGreatDoorXZ13
import Derived.Laws.Tables
namespace Go.Proofs.YtjhlpkhfdghngaaGreatDoor
open Go.RowKit Go.Sort
set_option linter.unusedVariables false
set_option linter.unusedSimpArgs false
set_option maxRecDepth 100000
def RListPost (r : List ByteArray × Int) (w : World) (e : Ending) (w' : World) : Prop := Below w.heap.size w w' ∧ ∃ A c, e = .returned (.agg #[.slice A r.1.length c, .int .i64 r.2]) ∧ Reads w' 1 A r.1.length (r.1.map .string)
theorem RListPost.none_ {w w' : World} {er : Int} (hb : Below w.heap.size w w') : RListPost ([], er) w (.returned (.agg #[.slice none 0 0, .int .i64 er])) w' := ⟨hb, none, 0, rfl, Reads.nil_ _ _ _⟩
end Go.Proofs.YtjhlpkhfdghngaaGreatDoor
namespace Go.Proofs.YtjhlpkhfdghngaaGreatDoor
open Go.RowKit Go.Sort
set_option linter.unusedVariables false
set_option linter.unusedSimpArgs false
set_option maxRecDepth 100000
theorem all_step {α : Type} (p : α → Bool) (l : List α) (k : Nat) (x : α) (hx : l[k]? = some x) (hp : p x = true) : (l.drop k).all p = (l.drop (k + 1)).all p := by
  obtain ⟨hl2, rfl⟩ := List.getElem?_eq_some_iff.1 hx
  rw [List.drop_eq_getElem_cons hl2, List.all_cons, hp, Bool.true_and]
theorem all_stop {α : Type} (p : α → Bool) (l : List α) (k : Nat) (x : α) (hx : l[k]? = some x) (hp : p x = false) : (l.drop k).all p = false := by
  obtain ⟨hl2, rfl⟩ := List.getElem?_eq_some_iff.1 hx
  rw [List.drop_eq_getElem_cons hl2, List.all_cons, hp, Bool.false_and]
end Go.Proofs.YtjhlpkhfdghngaaGreatDoor
namespace Go.Proofs.YtjhlpkhfdghngaaGreatDoor
open Go.RowKit Go.Sort
set_option linter.unusedVariables false
set_option linter.unusedSimpArgs false
set_option maxRecDepth 100000
def fewVy (v : VaryV) : Bool := decide (v.header.size ≤ 200) && decide (v.dflt.size ≤ 200) && decide (v.values.length ≤ 10) && v.values.all (fun x => decide (x.size ≤ 200))
def fewCR (c : CondV) : Bool := fewC c.cl.length c.co.length c.si.length c.pat c.cl c.co
def fewR (r : RuleV) : Bool := decide (r.name.size ≤ 200) && decide (r.pat.size ≤ 200) && decide (r.prog.size ≤ 200) && decide (r.tags.length ≤ 10) && decide (r.vary.length ≤ 10) && fewCR r.allow && r.tags.all (fun x => decide (x.size ≤ 200)) && r.vary.all fewVy
set_option maxHeartbeats 4000000 in
theorem rFew22_head (x : RuleM) (w : World) (hR : RuleReads w x) (hbad : (decide (x.r.name.size ≤ 200) && decide (x.r.pat.size ≤ 200) && decide (x.r.prog.size ≤ 200) && decide (x.r.tags.length ≤ 10) && decide (x.r.vary.length ≤ 10) && fewCR x.r.allow) = false) :
    Calls Tryz.prog 40 #[x.val] w (Ret w (.bool false)) := by
  have cF := fun W (hb : Below w.heap.size w W) => rFew_any x.r.allow.fr x.r.allow.till x.r.allow.us x.r.allow.pat x.m.A x.m.B x.m.S x.r.allow.cl.length x.m.ca x.r.allow.co.length x.m.cb x.r.allow.si.length x.m.cs x.r.allow.cl x.r.allow.co W (hR.allow.cl.keep hb) (hR.allow.co.keep hb)
  have hfc : fewC x.r.allow.cl.length x.r.allow.co.length x.r.allow.si.length x.r.allow.pat x.r.allow.cl x.r.allow.co = fewCR x.r.allow := rfl
  rw [hfc] at cF
  generalize fewCR x.r.allow = fc at *
  rw [RuleM.val_eq]
  have HF := Lib.hid cF
  clear cF hR hfc
  by_cases h0 : x.r.name.size ≤ 200
  rotate_left
  · have d0 : decide ((200 : Int) < (x.r.name.size : Int)) = true := decide_eq_true (by omega)
    clear hbad
    go_enter Tryz.func40, Tryz.ntmps40
    go_wp2
    go_ret
    exact ⟨rfl, belB⟩
  have d0 : decide ((200 : Int) < (x.r.name.size : Int)) = false := decide_eq_false (by omega)
  by_cases h1 : x.r.pat.size ≤ 200
  rotate_left
  · have d1 : decide ((200 : Int) < (x.r.pat.size : Int)) = true := decide_eq_true (by omega)
    clear hbad
    go_enter Tryz.func40, Tryz.ntmps40
    go_wp2
    go_ret
    exact ⟨rfl, belB⟩
  have d1 : decide ((200 : Int) < (x.r.pat.size : Int)) = false := decide_eq_false (by omega)
  by_cases h2 : x.r.prog.size ≤ 200
  rotate_left
  · have d2 : decide ((200 : Int) < (x.r.prog.size : Int)) = true := decide_eq_true (by omega)
    clear hbad
    go_enter Tryz.func40, Tryz.ntmps40
    go_wp2
    go_ret
    exact ⟨rfl, belB⟩
  have d2 : decide ((200 : Int) < (x.r.prog.size : Int)) = false := decide_eq_false (by omega)
  by_cases h3 : x.r.tags.length ≤ 10
  rotate_left
  · have d3 : decide ((10 : Int) < (x.r.tags.length : Int)) = true := decide_eq_true (by omega)
    clear hbad
    go_enter Tryz.func40, Tryz.ntmps40
    go_wp2
    go_ret
    exact ⟨rfl, belB⟩
  have d3 : decide ((10 : Int) < (x.r.tags.length : Int)) = false := decide_eq_false (by omega)
  by_cases h4 : x.r.vary.length ≤ 10
  rotate_left
  · have d4 : decide ((10 : Int) < (x.r.vary.length : Int)) = true := decide_eq_true (by omega)
    clear hbad
    go_enter Tryz.func40, Tryz.ntmps40
    go_wp2
    go_ret
    exact ⟨rfl, belB⟩
  have d4 : decide ((10 : Int) < (x.r.vary.length : Int)) = false := decide_eq_false (by omega)
  obtain rfl : fc = false := by simpa [h0, h1, h2, h3, h4] using hbad
  clear hbad
  go_enter Tryz.func40, Tryz.ntmps40
  go_wp2_with (go_at_call 105; refine (HF.out _ belB).mono ?_; rintro e w2 ⟨rfl, hb2⟩)
  go_ret
  exact ⟨rfl, belB⟩
end Go.Proofs.YtjhlpkhfdghngaaGreatDoor
namespace Go.Proofs.YtjhlpkhfdghngaaGreatDoor
open Go.RowKit Go.Sort
set_option linter.unusedVariables false
set_option linter.unusedSimpArgs false
set_option maxRecDepth 100000
set_option maxHeartbeats 8000000 in
theorem rFew22_tail (x : RuleM) (w : World) (hR : RuleReads w x) (hgood : (decide (x.r.name.size ≤ 200) && decide (x.r.pat.size ≤ 200) && decide (x.r.prog.size ≤ 200) && decide (x.r.tags.length ≤ 10) && decide (x.r.vary.length ≤ 10) && fewCR x.r.allow) = true) :
    Calls Tryz.prog 40 #[x.val] w (Ret w (.bool (x.r.tags.all (fun x : ByteArray => decide (x.size ≤ 200)) && x.r.vary.all fewVy))) := by
  have cF := fun W (hb : Below w.heap.size w W) => rFew_any x.r.allow.fr x.r.allow.till x.r.allow.us x.r.allow.pat x.m.A x.m.B x.m.S x.r.allow.cl.length x.m.ca x.r.allow.co.length x.m.cb x.r.allow.si.length x.m.cs x.r.allow.cl x.r.allow.co W (hR.allow.cl.keep hb) (hR.allow.co.keep hb)
  have hfc : fewC x.r.allow.cl.length x.r.allow.co.length x.r.allow.si.length x.r.allow.pat x.r.allow.cl x.r.allow.co = fewCR x.r.allow := rfl
  rw [hfc] at cF
  generalize fewCR x.r.allow = fc at *
  simp only [Bool.and_eq_true, decide_eq_true_eq] at hgood
  obtain ⟨⟨⟨⟨⟨h0, h1⟩, h2⟩, h3⟩, h4⟩, rfl⟩ := hgood
  have d0 : decide ((200 : Int) < (x.r.name.size : Int)) = false := decide_eq_false (by omega)
  have d1 : decide ((200 : Int) < (x.r.pat.size : Int)) = false := decide_eq_false (by omega)
  have d2 : decide ((200 : Int) < (x.r.prog.size : Int)) = false := decide_eq_false (by omega)
  have d3 : decide ((10 : Int) < (x.r.tags.length : Int)) = false := decide_eq_false (by omega)
  have d4 : decide ((10 : Int) < (x.r.vary.length : Int)) = false := decide_eq_false (by omega)
  obtain ⟨V, hV⟩ : ∃ V, V = (x.r.tags.all (fun x : ByteArray => decide (x.size ≤ 200)) && x.r.vary.all fewVy) := ⟨_, rfl⟩
  rw [← hV]
  rw [RuleM.val_eq]
  have hA := hR.tags
  have hsame := hR.same
  have HF := Lib.hid cF; have HV := Lib.hid hV; have HA := Lib.hid hA; have HR := Lib.hid hR; have HSM := Lib.hid hsame
  have hvl : x.L.length = x.r.vary.length := by rw [← hsame, List.length_map]
  have HVL := Lib.hid hvl
  clear cF hR hfc hV hA hsame hvl h0 h1 h2
  go_enter Tryz.func40, Tryz.ntmps40
  go_wp2_with (go_at_call 105; refine (HF.out _ belB).mono ?_; rintro e w2 ⟨rfl, hb2⟩; have y2 : w2.cell? ⟨w.heap.size, 2, none⟩ = some (.slice x.T x.r.tags.length x.ct) := cell_keep hb2 ((cell_of_row _ _ 2 _ _ _ (heap_alloc_new w _)).trans rfl); have y7 : w2.cell? ⟨w.heap.size, 7, none⟩ = some (.slice x.V x.r.vary.length x.cv) := cell_keep hb2 ((cell_of_row _ _ 7 _ _ _ (heap_alloc_new w _)).trans rfl))
  have hbw2 : Below w.heap.size w w2 := belB
  clear d0 d1 d2 d3 d4 HF
  obtain ⟨n, hn⟩ : ∃ n, n = x.r.tags.length := ⟨_, rfl⟩
  obtain ⟨m, hm⟩ : ∃ m, m = x.r.vary.length := ⟨_, rfl⟩
  rw [← hn] at y2 HA h3
  rw [← hm] at y7 h4 HVL
  have HN := Lib.hid hn; have HMM := Lib.hid hm
  clear hn hm
  go_loopw [3] (fun vi wr => ∃ k : Nat, vi = .int .i64 k ∧ k ≤ n ∧ Hid ((x.r.tags.take k).all (fun x : ByteArray => decide (x.size ≤ 200)) = true) ∧ wr.cell? ⟨w.heap.size, 2, none⟩ = some (.slice x.T n x.ct) ∧ wr.cell? ⟨w.heap.size, 7, none⟩ = some (.slice x.V m x.cv) ∧ Below w.heap.size w wr ∧ w.heap.size < wr.heap.size) (fun i _ => n - (intOf i).toNat)
  case atStart => exact ⟨0, rfl, Nat.zero_le _, Lib.hid (by simp), y2, y7, hbw2, cell_lt y2⟩
  case round =>
    clear y2 y7 hbw2 hb2
    obtain ⟨k, rfl, hk, HK, y2, y7, hbr, hgr⟩ := hrel
    by_cases hlt : k < n
    · obtain ⟨t, ht⟩ : ∃ t, x.r.tags[k]? = some t := ⟨_, List.getElem?_eq_getElem (by have := HN.out; omega)⟩
      obtain ⟨b, o, hT, hcell⟩ := (HA.out.keep hbr).2 (by omega)
      rw [hT] at y2
      have hc1 : wr.cell? ⟨b, o + k, none⟩ = some (.string t) := hcell k _ (by simp [ht])
      have hk0 : (0 : Int) ≤ (k : Int) := by omega
      have hk1 : (k : Int) < (n : Int) := by omega
      by_cases hs : t.size ≤ 200
      · have HK2 : Hid ((x.r.tags.take (k + 1)).all (fun x : ByteArray => decide (x.size ≤ 200)) = true) := Lib.hid (all_take2 HK.out ht (by simpa using hs))
        have d5 : decide ((200 : Int) < (t.size : Int)) = false := decide_eq_false (by omega)
        have HTT := Lib.hid hT
        clear hcell ht HK hT
        go_wp2
        exact ⟨⟨k + 1, by go_num, by omega, HK2, by rw [HTT.out]; exact y2, y7, hbr, hgr⟩, by simp [intOf]; omega⟩
      · obtain rfl : V = false := by rw [HV.out, all_false2 ht (by simpa using hs)]; rfl
        have d5 : decide ((200 : Int) < (t.size : Int)) = true := decide_eq_true (by omega)
        clear hcell ht HK hT
        go_wp2
        go_ret
        exact ⟨rfl, hbr⟩
    · obtain rfl : k = n := by omega
      have hall : x.r.tags.all (fun x : ByteArray => decide (x.size ≤ 200)) = true := by
        have := HK.out
        rwa [List.take_of_length_le (by have := HN.out; omega)] at this
      have hv3 : V = x.r.vary.all fewVy := by rw [HV.out, hall, Bool.true_and]
      have HV2 := Lib.hid hv3
      clear hall hv3 HK HV
      go_wp2
      obtain ⟨wo, rfl⟩ : ∃ wo : World, wo = wr := ⟨_, rfl⟩
      clear y2 HA
      go_loopw [4] (fun vi wz => ∃ j : Nat, vi = .int .i64 j ∧ j ≤ m ∧ Hid ((x.r.vary.take j).all fewVy = true) ∧ wz.cell? ⟨w.heap.size, 7, none⟩ = some (.slice x.V m x.cv) ∧ Below w.heap.size w wz ∧ w.heap.size < wz.heap.size) (fun i _ => m - (intOf i).toNat)
      case atStart => exact ⟨0, rfl, Nat.zero_le _, Lib.hid (by simp), y7, hbr, hgr⟩
      case round =>
        clear y7 hbr hgr
        obtain ⟨j, rfl, hj, HJ, y7, hbr, hgr⟩ := hrel
        by_cases hlt2 : j < m
        · obtain ⟨y, hy⟩ : ∃ y, x.L[j]? = some y := ⟨_, List.getElem?_eq_getElem (by have := HVL.out; omega)⟩
          have hxv : x.r.vary[j]? = some y.v := by rw [← HSM.out, List.getElem?_map, hy]; rfl
          obtain ⟨b, o, hVV, hcell⟩ := Reads.row (HR.out.vary.keep hbr) (fun a _ => a.cells_len) (by have := HVL.out; have := HMM.out; omega) hy
          have hyr := (HR.out.each y (List.mem_of_getElem? hy))
          rw [hVV] at y7
          have e0 : wr.cell? ⟨b, o + j * 3, none⟩ = some (.string y.v.header) := hcell 0 _ rfl
          have e1 : wr.cell? ⟨b, o + j * 3 + 1, none⟩ = some (.slice y.A y.v.values.length y.c) := hcell 1 _ rfl
          have e2 : wr.cell? ⟨b, o + j * 3 + 2, none⟩ = some (.string y.v.dflt) := hcell 2 _ rfl
          have hj0 : (0 : Int) ≤ (j : Int) := by omega
          have hj1 : (j : Int) < (m : Int) := by omega
          have HYR := Lib.hid hyr; have HVV := Lib.hid hVV
          clear hcell hy hyr hVV
          by_cases g0 : y.v.header.size ≤ 200
          rotate_left
          · obtain rfl : V = false := by rw [HV2.out, all_false2 hxv (by simp [fewVy, g0])]
            have dg0 : decide ((200 : Int) < (y.v.header.size : Int)) = true := decide_eq_true (by omega)
            clear HJ hxv
            go_wp2
            go_ret
            exact ⟨rfl, belB⟩
          have dg0 : decide ((200 : Int) < (y.v.header.size : Int)) = false := decide_eq_false (by omega)
          by_cases g1 : y.v.dflt.size ≤ 200
          rotate_left
          · obtain rfl : V = false := by rw [HV2.out, all_false2 hxv (by simp [fewVy, g1])]
            have dg1 : decide ((200 : Int) < (y.v.dflt.size : Int)) = true := decide_eq_true (by omega)
            clear HJ hxv
            go_wp2
            go_ret
            exact ⟨rfl, belB⟩
          have dg1 : decide ((200 : Int) < (y.v.dflt.size : Int)) = false := decide_eq_false (by omega)
          by_cases g2 : y.v.values.length ≤ 10
          rotate_left
          · obtain rfl : V = false := by rw [HV2.out, all_false2 hxv (by simp [fewVy, g2])]
            have dg2 : decide ((10 : Int) < (y.v.values.length : Int)) = true := decide_eq_true (by omega)
            clear HJ hxv
            go_wp2
            go_ret
            exact ⟨rfl, belB⟩
          have dg2 : decide ((10 : Int) < (y.v.values.length : Int)) = false := decide_eq_false (by omega)
          have HXV := Lib.hid hxv
          clear hxv
          go_wp2
          obtain ⟨wv, hwv⟩ : ∃ wv : World, wv = wr := ⟨_, rfl⟩
          have z7 : (wr.alloc (.cells #[.string y.v.header, .slice y.A y.v.values.length y.c, .string y.v.dflt] 99)).cell? ⟨w.heap.size, 7, none⟩ = some (.slice (some ⟨b, o, none⟩) m x.cv) := cell_keep ((Below.refl wr.heap.size wr).alloc (Nat.le_refl _) _) y7
          have z1 : (wr.alloc (.cells #[.string y.v.header, .slice y.A y.v.values.length y.c, .string y.v.dflt] 99)).cell? ⟨wr.heap.size, 1, none⟩ = some (.slice y.A y.v.values.length y.c) := (cell_of_row _ _ 1 _ _ _ (heap_alloc_new wr _)).trans rfl
          have hb3 : Below w.heap.size w (wr.alloc (.cells #[.string y.v.header, .slice y.A y.v.values.length y.c, .string y.v.dflt] 99)) := belB
          clear e0 e1 e2 dg0 dg1 dg2 y7
          generalize hg : wr.heap.size = g at *
          have hgg : w.heap.size < g := hgr
          obtain ⟨q, hq⟩ : ∃ q, q = y.v.values.length := ⟨_, rfl⟩
          rw [← hq] at z1 z7 hb3 g2 ⊢
          have HQ := Lib.hid hq
          clear hq
          go_loopw [6] (fun vi wy => ∃ i : Nat, vi = .int .i64 i ∧ i ≤ q ∧ Hid ((y.v.values.take i).all (fun x : ByteArray => decide (x.size ≤ 200)) = true) ∧ wy.cell? ⟨w.heap.size, 7, none⟩ = some (.slice (some ⟨b, o, none⟩) m x.cv) ∧ wy.cell? ⟨g, 1, none⟩ = some (.slice y.A q y.c) ∧ Below w.heap.size w wy) (fun i _ => q - (intOf i).toNat)
          case atStart => exact ⟨0, rfl, Nat.zero_le _, Lib.hid (by simp), z7, z1, hb3⟩
          case round =>
            clear z7 z1 hb3 hbr
            obtain ⟨i, rfl, hi, HK3, z7, z1, hbr⟩ := hrel
            by_cases hlt3 : i < q
            · obtain ⟨t, ht⟩ : ∃ t, y.v.values[i]? = some t := ⟨_, List.getElem?_eq_getElem (by have := HQ.out; omega)⟩
              obtain ⟨b3, o3, hYA, hcell⟩ := (Reads.keep HYR.out hbr).2 (by have := HQ.out; omega)
              rw [hYA] at z1
              have hc1 : wr.cell? ⟨b3, o3 + i, none⟩ = some (.string t) := hcell i _ (by simp [ht])
              have hi0 : (0 : Int) ≤ (i : Int) := by omega
              have hi1 : (i : Int) < (q : Int) := by omega
              by_cases hs : t.size ≤ 200
              · have HK4 : Hid ((y.v.values.take (i + 1)).all (fun x : ByteArray => decide (x.size ≤ 200)) = true) := Lib.hid (all_take2 HK3.out ht (by simpa using hs))
                have d5 : decide ((200 : Int) < (t.size : Int)) = false := decide_eq_false (by omega)
                have HTT := Lib.hid hYA
                clear hcell ht HK3 hYA
                go_wp2
                exact ⟨⟨i + 1, by go_num, by omega, HK4, z7, by rw [HTT.out]; exact z1, hbr⟩, by simp [intOf]; omega⟩
              · obtain rfl : V = false := by rw [HV2.out, all_false2 HXV.out (by simp [fewVy, all_false2 ht (p := (fun x : ByteArray => decide (x.size ≤ 200))) (by simpa using hs)])]
                have d5 : decide ((200 : Int) < (t.size : Int)) = true := decide_eq_true (by omega)
                clear hcell ht HK3 hYA
                go_wp2
                go_ret
                exact ⟨rfl, hbr⟩
            · obtain rfl : i = q := by omega
              have hall : y.v.values.all (fun x : ByteArray => decide (x.size ≤ 200)) = true := by
                have := HK3.out
                rwa [List.take_of_length_le (by have := HQ.out; omega)] at this
              have hfv : fewVy y.v = true := by
                unfold fewVy
                rw [hall]
                have := HQ.out
                simp [g0, g1, ← HQ.out, g2]
              have HJ2 : Hid ((x.r.vary.take (j + 1)).all fewVy = true) := Lib.hid (all_take2 HJ.out HXV.out hfv)
              clear hall hfv HK3
              go_wp2
              exact ⟨⟨j + 1, by go_num, by omega, HJ2, by rw [HVV.out]; exact z7, hbr, cell_lt z7⟩, by simp [intOf]; omega⟩
        · obtain rfl : j = m := by omega
          have hall : x.r.vary.all fewVy = true := by
            have := HJ.out
            rwa [List.take_of_length_le (by have := HMM.out; omega)] at this
          obtain rfl : V = true := by rw [HV2.out, hall]
          clear hall HJ
          go_wp2
          go_ret
          exact ⟨rfl, hbr⟩
theorem rFew22_any (x : RuleM) (w : World) (hR : RuleReads w x) : Calls Tryz.prog 40 #[x.val] w (Ret w (.bool (fewR x.r))) := by
  unfold fewR
  cases hc : (decide (x.r.name.size ≤ 200) && decide (x.r.pat.size ≤ 200) && decide (x.r.prog.size ≤ 200) && decide (x.r.tags.length ≤ 10) && decide (x.r.vary.length ≤ 10) && fewCR x.r.allow)
  · rw [Bool.false_and, Bool.false_and]; exact rFew22_head x w hR hc
  · rw [Bool.true_and]; exact rFew22_tail x w hR hc
end Go.Proofs.YtjhlpkhfdghngaaGreatDoor
namespace Go.Proofs.YtjhlpkhfdghngaaGreatDoor
open Go.RowKit Go.Sort
set_option linter.unusedVariables false
set_option linter.unusedSimpArgs false
set_option maxRecDepth 100000
theorem rSpan22_any (n : Int) (w : World) : Calls Tryz.prog 57 #[.int .i64 n] w (Ret w (.bool (spanB n))) := by
  unfold spanB
  by_cases h0 : 0 ≤ n
  · go_enter Tryz.func57, Tryz.ntmps57
    go_wp2
    go_ret
    exact ⟨by simp [h0], belB⟩
  · go_enter Tryz.func57, Tryz.ntmps57
    go_wp2
    go_ret
    exact ⟨by simp [h0]; intros; omega, belB⟩
set_option maxHeartbeats 8000000 in
theorem rValid22_of (x : RuleM) (w : World) (hR : RuleReads w x) (hf : RuleFits x.r)
    (cC : ∀ W, Below w.heap.size w W → Calls Tryz.prog 55 #[.slice x.T x.r.tags.length x.ct] W (Ret W (.bool (namesA x.r.tags)))) :
    Calls Tryz.prog 13 #[x.val] w (Ret w (.bool (validR x.r))) := by
  have cA := fun W => rName_any x.r.name W (by have := hf.name; omega)
  have cB := fun W => rValid_any x.r.pat W (by have := hf.pat; omega)
  have cD := fun W (hb : Below w.heap.size w W) => rValid21_any x.r.allow x.m W (hR.allow.keep hb) hf.c.p hf.c.cl hf.c.co hf.c.n1 hf.c.n2 hf.c.n3
  have HS := Lib.hid (fun (n : Int) (W : World) => rSpan22_any n W)
  obtain ⟨V, hV⟩ : ∃ V, V = validR x.r := ⟨_, rfl⟩
  rw [← hV]
  unfold validR at hV
  rw [RuleM.val_eq]
  unfold CondMem.val at cD
  generalize isNameB x.r.name = a1 at *
  generalize (compileB x.r.pat).isSome = a2 at *
  generalize namesA x.r.tags = a3 at *
  generalize validC x.r.allow = a4 at *
  clear hR hf
  cases a1
  · obtain rfl : V = false := by rw [hV]; simp
    have HA := Lib.hid cA
    clear hV cA cB cC cD
    go_enter Tryz.func13, Tryz.ntmps13
    go_wp2_with (first | (go_at_call 53; refine (HA.out _).mono ?_; rintro e w2 ⟨rfl, hb2⟩; have R2 : RowV w2 w.heap.size 33 x.cells := RowV.keep (RowV.new w 33 x.cells) hb2; obtain ⟨y0, y1, y2, y3, y4, y5, y6, y7, y8, y9, y10, y11, y12, y13, y14, y15, y16, y17⟩ := box_facts R2))
    go_ret
    exact ⟨rfl, belB⟩
  have HA := Lib.hid cA
  clear cA
  cases a2
  · obtain rfl : V = false := by rw [hV]; simp
    have HB := Lib.hid cB
    clear hV cB cC cD
    go_enter Tryz.func13, Tryz.ntmps13
    go_wp2_with (first | (go_at_call 53; refine (HA.out _).mono ?_; rintro e w2 ⟨rfl, hb2⟩; have R2 : RowV w2 w.heap.size 33 x.cells := RowV.keep (RowV.new w 33 x.cells) hb2; obtain ⟨y0, y1, y2, y3, y4, y5, y6, y7, y8, y9, y10, y11, y12, y13, y14, y15, y16, y17⟩ := box_facts R2) | (go_at_call 54; refine (HB.out _).mono ?_; rintro e w3 ⟨rfl, hb3⟩; have R3 : RowV w3 w.heap.size 33 x.cells := RowV.keep R2 hb3; clear y0 y1 y2 y3 y4 y5 y6 y7 y8 y9 y10 y11 y12 y13 y14 y15 y16 y17; obtain ⟨y0, y1, y2, y3, y4, y5, y6, y7, y8, y9, y10, y11, y12, y13, y14, y15, y16, y17⟩ := box_facts R3))
    go_ret
    exact ⟨rfl, belB⟩
  have HB := Lib.hid cB
  clear cB
  cases a3
  · obtain rfl : V = false := by rw [hV]; simp
    have HC := Lib.hid cC
    clear hV cC cD
    go_enter Tryz.func13, Tryz.ntmps13
    go_wp2_with (first | (go_at_call 53; refine (HA.out _).mono ?_; rintro e w2 ⟨rfl, hb2⟩; have R2 : RowV w2 w.heap.size 33 x.cells := RowV.keep (RowV.new w 33 x.cells) hb2; obtain ⟨y0, y1, y2, y3, y4, y5, y6, y7, y8, y9, y10, y11, y12, y13, y14, y15, y16, y17⟩ := box_facts R2) | (go_at_call 54; refine (HB.out _).mono ?_; rintro e w3 ⟨rfl, hb3⟩; have R3 : RowV w3 w.heap.size 33 x.cells := RowV.keep R2 hb3; clear y0 y1 y2 y3 y4 y5 y6 y7 y8 y9 y10 y11 y12 y13 y14 y15 y16 y17; obtain ⟨y0, y1, y2, y3, y4, y5, y6, y7, y8, y9, y10, y11, y12, y13, y14, y15, y16, y17⟩ := box_facts R3) | (go_at_call 55; refine (HC.out _ belB).mono ?_; rintro e w4 ⟨rfl, hb4⟩; have R4 : RowV w4 w.heap.size 33 x.cells := RowV.keep R3 hb4; clear y0 y1 y2 y3 y4 y5 y6 y7 y8 y9 y10 y11 y12 y13 y14 y15 y16 y17; obtain ⟨y0, y1, y2, y3, y4, y5, y6, y7, y8, y9, y10, y11, y12, y13, y14, y15, y16, y17⟩ := box_facts R4))
    go_ret
    exact ⟨rfl, belB⟩
  have HC := Lib.hid cC
  clear cC
  cases a4
  · obtain rfl : V = false := by rw [hV]; simp
    have HD := Lib.hid cD
    clear hV cD
    go_enter Tryz.func13, Tryz.ntmps13
    go_wp2_with (first | (go_at_call 53; refine (HA.out _).mono ?_; rintro e w2 ⟨rfl, hb2⟩; have R2 : RowV w2 w.heap.size 33 x.cells := RowV.keep (RowV.new w 33 x.cells) hb2; obtain ⟨y0, y1, y2, y3, y4, y5, y6, y7, y8, y9, y10, y11, y12, y13, y14, y15, y16, y17⟩ := box_facts R2) | (go_at_call 54; refine (HB.out _).mono ?_; rintro e w3 ⟨rfl, hb3⟩; have R3 : RowV w3 w.heap.size 33 x.cells := RowV.keep R2 hb3; clear y0 y1 y2 y3 y4 y5 y6 y7 y8 y9 y10 y11 y12 y13 y14 y15 y16 y17; obtain ⟨y0, y1, y2, y3, y4, y5, y6, y7, y8, y9, y10, y11, y12, y13, y14, y15, y16, y17⟩ := box_facts R3) | (go_at_call 55; refine (HC.out _ belB).mono ?_; rintro e w4 ⟨rfl, hb4⟩; have R4 : RowV w4 w.heap.size 33 x.cells := RowV.keep R3 hb4; clear y0 y1 y2 y3 y4 y5 y6 y7 y8 y9 y10 y11 y12 y13 y14 y15 y16 y17; obtain ⟨y0, y1, y2, y3, y4, y5, y6, y7, y8, y9, y10, y11, y12, y13, y14, y15, y16, y17⟩ := box_facts R4) | (go_at_call 56; refine (HD.out _ belB).mono ?_; rintro e w5 ⟨rfl, hb5⟩; have R5 : RowV w5 w.heap.size 33 x.cells := RowV.keep R4 hb5; clear y0 y1 y2 y3 y4 y5 y6 y7 y8 y9 y10 y11 y12 y13 y14 y15 y16 y17; obtain ⟨y0, y1, y2, y3, y4, y5, y6, y7, y8, y9, y10, y11, y12, y13, y14, y15, y16, y17⟩ := box_facts R5))
    go_ret
    exact ⟨rfl, belB⟩
  have HD := Lib.hid cD
  clear cD
  cases cE : spanB x.r.fresh
  · obtain rfl : V = false := by rw [hV, cE]; simp
    have HE := Lib.hid cE
    clear hV cE
    go_enter Tryz.func13, Tryz.ntmps13
    go_wp2_with (first | (go_at_call 53; refine (HA.out _).mono ?_; rintro e w2 ⟨rfl, hb2⟩; have R2 : RowV w2 w.heap.size 33 x.cells := RowV.keep (RowV.new w 33 x.cells) hb2; obtain ⟨y0, y1, y2, y3, y4, y5, y6, y7, y8, y9, y10, y11, y12, y13, y14, y15, y16, y17⟩ := box_facts R2) | (go_at_call 54; refine (HB.out _).mono ?_; rintro e w3 ⟨rfl, hb3⟩; have R3 : RowV w3 w.heap.size 33 x.cells := RowV.keep R2 hb3; clear y0 y1 y2 y3 y4 y5 y6 y7 y8 y9 y10 y11 y12 y13 y14 y15 y16 y17; obtain ⟨y0, y1, y2, y3, y4, y5, y6, y7, y8, y9, y10, y11, y12, y13, y14, y15, y16, y17⟩ := box_facts R3) | (go_at_call 55; refine (HC.out _ belB).mono ?_; rintro e w4 ⟨rfl, hb4⟩; have R4 : RowV w4 w.heap.size 33 x.cells := RowV.keep R3 hb4; clear y0 y1 y2 y3 y4 y5 y6 y7 y8 y9 y10 y11 y12 y13 y14 y15 y16 y17; obtain ⟨y0, y1, y2, y3, y4, y5, y6, y7, y8, y9, y10, y11, y12, y13, y14, y15, y16, y17⟩ := box_facts R4) | (go_at_call 56; refine (HD.out _ belB).mono ?_; rintro e w5 ⟨rfl, hb5⟩; have R5 : RowV w5 w.heap.size 33 x.cells := RowV.keep R4 hb5; clear y0 y1 y2 y3 y4 y5 y6 y7 y8 y9 y10 y11 y12 y13 y14 y15 y16 y17; obtain ⟨y0, y1, y2, y3, y4, y5, y6, y7, y8, y9, y10, y11, y12, y13, y14, y15, y16, y17⟩ := box_facts R5) | (go_at_call 57; refine (HS.out _ _).mono ?_; rintro e w6 ⟨rfl, hb6⟩; replace R5 := RowV.keep R5 hb6; clear y0 y1 y2 y3 y4 y5 y6 y7 y8 y9 y10 y11 y12 y13 y14 y15 y16 y17; obtain ⟨y0, y1, y2, y3, y4, y5, y6, y7, y8, y9, y10, y11, y12, y13, y14, y15, y16, y17⟩ := box_facts R5; try simp only [HE.out]))
    go_ret
    exact ⟨rfl, belB⟩
  have HE := Lib.hid cE
  rw [cE] at hV
  clear cE
  cases cF : spanB x.r.stale
  · obtain rfl : V = false := by rw [hV, cF]; simp
    have HF := Lib.hid cF
    clear hV cF
    go_enter Tryz.func13, Tryz.ntmps13
    go_wp2_with (first | (go_at_call 53; refine (HA.out _).mono ?_; rintro e w2 ⟨rfl, hb2⟩; have R2 : RowV w2 w.heap.size 33 x.cells := RowV.keep (RowV.new w 33 x.cells) hb2; obtain ⟨y0, y1, y2, y3, y4, y5, y6, y7, y8, y9, y10, y11, y12, y13, y14, y15, y16, y17⟩ := box_facts R2) | (go_at_call 54; refine (HB.out _).mono ?_; rintro e w3 ⟨rfl, hb3⟩; have R3 : RowV w3 w.heap.size 33 x.cells := RowV.keep R2 hb3; clear y0 y1 y2 y3 y4 y5 y6 y7 y8 y9 y10 y11 y12 y13 y14 y15 y16 y17; obtain ⟨y0, y1, y2, y3, y4, y5, y6, y7, y8, y9, y10, y11, y12, y13, y14, y15, y16, y17⟩ := box_facts R3) | (go_at_call 55; refine (HC.out _ belB).mono ?_; rintro e w4 ⟨rfl, hb4⟩; have R4 : RowV w4 w.heap.size 33 x.cells := RowV.keep R3 hb4; clear y0 y1 y2 y3 y4 y5 y6 y7 y8 y9 y10 y11 y12 y13 y14 y15 y16 y17; obtain ⟨y0, y1, y2, y3, y4, y5, y6, y7, y8, y9, y10, y11, y12, y13, y14, y15, y16, y17⟩ := box_facts R4) | (go_at_call 56; refine (HD.out _ belB).mono ?_; rintro e w5 ⟨rfl, hb5⟩; have R5 : RowV w5 w.heap.size 33 x.cells := RowV.keep R4 hb5; clear y0 y1 y2 y3 y4 y5 y6 y7 y8 y9 y10 y11 y12 y13 y14 y15 y16 y17; obtain ⟨y0, y1, y2, y3, y4, y5, y6, y7, y8, y9, y10, y11, y12, y13, y14, y15, y16, y17⟩ := box_facts R5) | (go_at_call 57; refine (HS.out _ _).mono ?_; rintro e w6 ⟨rfl, hb6⟩; replace R5 := RowV.keep R5 hb6; clear y0 y1 y2 y3 y4 y5 y6 y7 y8 y9 y10 y11 y12 y13 y14 y15 y16 y17; obtain ⟨y0, y1, y2, y3, y4, y5, y6, y7, y8, y9, y10, y11, y12, y13, y14, y15, y16, y17⟩ := box_facts R5; try simp only [HE.out, HF.out]))
    go_ret
    exact ⟨rfl, belB⟩
  have HF := Lib.hid cF
  rw [cF] at hV
  clear cF
  cases cG : spanB x.r.down
  · obtain rfl : V = false := by rw [hV, cG]; simp
    have HG := Lib.hid cG
    clear hV cG
    go_enter Tryz.func13, Tryz.ntmps13
    go_wp2_with (first | (go_at_call 53; refine (HA.out _).mono ?_; rintro e w2 ⟨rfl, hb2⟩; have R2 : RowV w2 w.heap.size 33 x.cells := RowV.keep (RowV.new w 33 x.cells) hb2; obtain ⟨y0, y1, y2, y3, y4, y5, y6, y7, y8, y9, y10, y11, y12, y13, y14, y15, y16, y17⟩ := box_facts R2) | (go_at_call 54; refine (HB.out _).mono ?_; rintro e w3 ⟨rfl, hb3⟩; have R3 : RowV w3 w.heap.size 33 x.cells := RowV.keep R2 hb3; clear y0 y1 y2 y3 y4 y5 y6 y7 y8 y9 y10 y11 y12 y13 y14 y15 y16 y17; obtain ⟨y0, y1, y2, y3, y4, y5, y6, y7, y8, y9, y10, y11, y12, y13, y14, y15, y16, y17⟩ := box_facts R3) | (go_at_call 55; refine (HC.out _ belB).mono ?_; rintro e w4 ⟨rfl, hb4⟩; have R4 : RowV w4 w.heap.size 33 x.cells := RowV.keep R3 hb4; clear y0 y1 y2 y3 y4 y5 y6 y7 y8 y9 y10 y11 y12 y13 y14 y15 y16 y17; obtain ⟨y0, y1, y2, y3, y4, y5, y6, y7, y8, y9, y10, y11, y12, y13, y14, y15, y16, y17⟩ := box_facts R4) | (go_at_call 56; refine (HD.out _ belB).mono ?_; rintro e w5 ⟨rfl, hb5⟩; have R5 : RowV w5 w.heap.size 33 x.cells := RowV.keep R4 hb5; clear y0 y1 y2 y3 y4 y5 y6 y7 y8 y9 y10 y11 y12 y13 y14 y15 y16 y17; obtain ⟨y0, y1, y2, y3, y4, y5, y6, y7, y8, y9, y10, y11, y12, y13, y14, y15, y16, y17⟩ := box_facts R5) | (go_at_call 57; refine (HS.out _ _).mono ?_; rintro e w6 ⟨rfl, hb6⟩; replace R5 := RowV.keep R5 hb6; clear y0 y1 y2 y3 y4 y5 y6 y7 y8 y9 y10 y11 y12 y13 y14 y15 y16 y17; obtain ⟨y0, y1, y2, y3, y4, y5, y6, y7, y8, y9, y10, y11, y12, y13, y14, y15, y16, y17⟩ := box_facts R5; try simp only [HE.out, HF.out, HG.out]))
    go_ret
    exact ⟨rfl, belB⟩
  have HG := Lib.hid cG
  rw [cG] at hV
  clear cG
  cases cH : spanB x.r.neg
  · obtain rfl : V = false := by rw [hV, cH]; simp
    have HH := Lib.hid cH
    clear hV cH
    go_enter Tryz.func13, Tryz.ntmps13
    go_wp2_with (first | (go_at_call 53; refine (HA.out _).mono ?_; rintro e w2 ⟨rfl, hb2⟩; have R2 : RowV w2 w.heap.size 33 x.cells := RowV.keep (RowV.new w 33 x.cells) hb2; obtain ⟨y0, y1, y2, y3, y4, y5, y6, y7, y8, y9, y10, y11, y12, y13, y14, y15, y16, y17⟩ := box_facts R2) | (go_at_call 54; refine (HB.out _).mono ?_; rintro e w3 ⟨rfl, hb3⟩; have R3 : RowV w3 w.heap.size 33 x.cells := RowV.keep R2 hb3; clear y0 y1 y2 y3 y4 y5 y6 y7 y8 y9 y10 y11 y12 y13 y14 y15 y16 y17; obtain ⟨y0, y1, y2, y3, y4, y5, y6, y7, y8, y9, y10, y11, y12, y13, y14, y15, y16, y17⟩ := box_facts R3) | (go_at_call 55; refine (HC.out _ belB).mono ?_; rintro e w4 ⟨rfl, hb4⟩; have R4 : RowV w4 w.heap.size 33 x.cells := RowV.keep R3 hb4; clear y0 y1 y2 y3 y4 y5 y6 y7 y8 y9 y10 y11 y12 y13 y14 y15 y16 y17; obtain ⟨y0, y1, y2, y3, y4, y5, y6, y7, y8, y9, y10, y11, y12, y13, y14, y15, y16, y17⟩ := box_facts R4) | (go_at_call 56; refine (HD.out _ belB).mono ?_; rintro e w5 ⟨rfl, hb5⟩; have R5 : RowV w5 w.heap.size 33 x.cells := RowV.keep R4 hb5; clear y0 y1 y2 y3 y4 y5 y6 y7 y8 y9 y10 y11 y12 y13 y14 y15 y16 y17; obtain ⟨y0, y1, y2, y3, y4, y5, y6, y7, y8, y9, y10, y11, y12, y13, y14, y15, y16, y17⟩ := box_facts R5) | (go_at_call 57; refine (HS.out _ _).mono ?_; rintro e w6 ⟨rfl, hb6⟩; replace R5 := RowV.keep R5 hb6; clear y0 y1 y2 y3 y4 y5 y6 y7 y8 y9 y10 y11 y12 y13 y14 y15 y16 y17; obtain ⟨y0, y1, y2, y3, y4, y5, y6, y7, y8, y9, y10, y11, y12, y13, y14, y15, y16, y17⟩ := box_facts R5; try simp only [HE.out, HF.out, HG.out, HH.out]))
    go_ret
    exact ⟨rfl, belB⟩
  have HH := Lib.hid cH
  rw [cH] at hV
  clear cH
  replace hV : V = (decide (x.r.vary.length ≤ 8) && decide (0 ≤ x.r.cost) && decide (x.r.cost ≤ 1073741824) && decide (x.r.prog.size ≤ 64)) := by rw [hV]; simp
  have HV := Lib.hid hV
  clear hV
  go_enter Tryz.func13, Tryz.ntmps13
  go_upto_region 5 with (first | (go_at_call 53; refine (HA.out _).mono ?_; rintro e w2 ⟨rfl, hb2⟩; have R2 : RowV w2 w.heap.size 33 x.cells := RowV.keep (RowV.new w 33 x.cells) hb2; obtain ⟨y0, y1, y2, y3, y4, y5, y6, y7, y8, y9, y10, y11, y12, y13, y14, y15, y16, y17⟩ := box_facts R2) | (go_at_call 54; refine (HB.out _).mono ?_; rintro e w3 ⟨rfl, hb3⟩; have R3 : RowV w3 w.heap.size 33 x.cells := RowV.keep R2 hb3; clear y0 y1 y2 y3 y4 y5 y6 y7 y8 y9 y10 y11 y12 y13 y14 y15 y16 y17; obtain ⟨y0, y1, y2, y3, y4, y5, y6, y7, y8, y9, y10, y11, y12, y13, y14, y15, y16, y17⟩ := box_facts R3) | (go_at_call 55; refine (HC.out _ belB).mono ?_; rintro e w4 ⟨rfl, hb4⟩; have R4 : RowV w4 w.heap.size 33 x.cells := RowV.keep R3 hb4; clear y0 y1 y2 y3 y4 y5 y6 y7 y8 y9 y10 y11 y12 y13 y14 y15 y16 y17; obtain ⟨y0, y1, y2, y3, y4, y5, y6, y7, y8, y9, y10, y11, y12, y13, y14, y15, y16, y17⟩ := box_facts R4) | (go_at_call 56; refine (HD.out _ belB).mono ?_; rintro e w5 ⟨rfl, hb5⟩; have R5 : RowV w5 w.heap.size 33 x.cells := RowV.keep R4 hb5; clear y0 y1 y2 y3 y4 y5 y6 y7 y8 y9 y10 y11 y12 y13 y14 y15 y16 y17; obtain ⟨y0, y1, y2, y3, y4, y5, y6, y7, y8, y9, y10, y11, y12, y13, y14, y15, y16, y17⟩ := box_facts R5) | (go_at_call 57; refine (HS.out _ _).mono ?_; rintro e w6 ⟨rfl, hb6⟩; replace R5 := RowV.keep R5 hb6; clear y0 y1 y2 y3 y4 y5 y6 y7 y8 y9 y10 y11 y12 y13 y14 y15 y16 y17; obtain ⟨y0, y1, y2, y3, y4, y5, y6, y7, y8, y9, y10, y11, y12, y13, y14, y15, y16, y17⟩ := box_facts R5; try simp only [HE.out, HF.out, HG.out, HH.out]))
  have hbE : Below w.heap.size w w6 := belB
  clear y0 y1 y2 y3 y4 y5 y6 y8 y9 y10 y11 y12 y13 y14 y15 R5
  have hV := HV.out
  clear HV HA HB HC HD HE HF HG HH HS
  by_cases t3 : x.r.vary.length ≤ 8
  rotate_left
  · obtain rfl : V = false := by rw [hV]; simp only [decide_eq_false t3]; simp
    have d3 : decide ((x.r.vary.length : Int) ≤ 8) = false := decide_eq_false (by omega)
    clear hV
    go_wp2
    go_ret
    exact ⟨rfl, hbE⟩
  have d3 : decide ((x.r.vary.length : Int) ≤ 8) = true := decide_eq_true (by omega)
  by_cases t4 : 0 ≤ x.r.cost
  rotate_left
  · obtain rfl : V = false := by rw [hV]; simp only [decide_eq_false t4]; simp
    have d4 : decide (0 ≤ x.r.cost) = false := decide_eq_false t4
    clear hV
    go_wp2
    go_ret
    exact ⟨rfl, hbE⟩
  have d4 : decide (0 ≤ x.r.cost) = true := decide_eq_true t4
  by_cases t5 : x.r.cost ≤ 1073741824
  rotate_left
  · obtain rfl : V = false := by rw [hV]; simp only [decide_eq_false t5]; simp
    have d5 : decide (x.r.cost ≤ 1073741824) = false := decide_eq_false t5
    clear hV
    go_wp2
    go_ret
    exact ⟨rfl, hbE⟩
  have d5 : decide (x.r.cost ≤ 1073741824) = true := decide_eq_true t5
  by_cases t6 : x.r.prog.size ≤ 64
  · obtain rfl : V = true := by rw [hV, decide_eq_true t3, d4, d5, decide_eq_true t6]; rfl
    have d6 : decide ((x.r.prog.size : Int) ≤ 64) = true := decide_eq_true (by omega)
    clear hV
    go_wp2
    go_ret
    exact ⟨rfl, hbE⟩
  · obtain rfl : V = false := by rw [hV]; simp only [decide_eq_false t6]; simp
    have d6 : decide ((x.r.prog.size : Int) ≤ 64) = false := decide_eq_false (by omega)
    clear hV
    go_wp2
    go_ret
    exact ⟨rfl, hbE⟩
end Go.Proofs.YtjhlpkhfdghngaaGreatDoor
namespace Go.Proofs.YtjhlpkhfdghngaaGreatDoor
open Go.RowKit Go.Sort
set_option linter.unusedVariables false
set_option linter.unusedSimpArgs false
set_option maxRecDepth 100000
set_option maxHeartbeats 4000000 in
theorem rFewRules22_any (p : RuleM → Bool) (A : Option Addr) (n c : Nat) (L : List RuleM) (most : Int) (w : World) (hL : RulesRead w A n L) (hn : n ≤ 9223372036854775807)
    (cP : ∀ x ∈ L, ∀ W, Below w.heap.size w W → Calls Tryz.prog 40 #[x.val] W (Ret W (.bool (p x)))) :
    Calls Tryz.prog 10 #[.slice A n c, .int .i64 most] w (Ret w (.bool (L.all p && decide ((n : Int) ≤ most)))) := by
  have hl : L.length = n := hL.len
  obtain ⟨V, hV⟩ : ∃ V, V = L.all p := ⟨_, rfl⟩
  rw [← hV]
  have HP := Lib.hid cP; have HA := Lib.hid hL; have HL := Lib.hid hl; have HV := Lib.hid hV
  clear cP hL hl hV
  go_enter Tryz.func10, Tryz.ntmps10
  go_wp2
  go_loopw [5] (fun i wr => ∃ k : Nat, k ≤ n ∧ i = .int .i64 k ∧ Hid (V = (L.drop k).all p) ∧ Below w.heap.size w wr) (fun i _ => n - (intOf i).toNat)
  case atStart => exact ⟨0, by omega, rfl, Lib.hid (by rw [HV.out]; rfl), Below.refl _ _⟩
  case round =>
    obtain ⟨k, hk, rfl, HI, hb⟩ := hrel
    by_cases hlt : k < n
    · obtain ⟨x, hx⟩ : ∃ x, L[k]? = some x := ⟨_, List.getElem?_eq_getElem (by have := HL.out; omega)⟩
      obtain ⟨_, b, o, rfl, hcell⟩ := (HA.out.keep hb).at_ hx
      have hld := rule_load wr b (o + k * 18) x hcell
      have hc := HP.out x (List.mem_of_getElem? hx) wr hb
      have hk0 : (0 : Int) ≤ (k : Int) := by omega
      have hk1 : (k : Int) < (n : Int) := by omega
      clear hcell
      have hxv : x.val = x.val := rfl
      generalize x.val = xv at hld hc
      clear hxv
      have HLD := Lib.hid hld
      clear hld
      cases hpx : p x
      · rw [hpx] at hc
        have HC := Lib.hid hc
        have hVf : V = false := by rw [HI.out]; exact all_stop _ _ _ _ hx hpx
        subst hVf
        clear hc hx hpx
        rw [Bool.false_and]
        go_wp2_with (first | (refine wpList_load_addr rfl _ _ rfl ⟨b, o + k * 18, none⟩ xv rfl HLD.out ?_) | (go_at_call 40; refine (HC.out).mono ?_; rintro e w2 ⟨rfl, hb2⟩))
        go_ret
        exact ⟨rfl, bstep hb hb2⟩
      · rw [hpx] at hc
        have HC := Lib.hid hc
        have hVs : V = (L.drop (k + 1)).all p := by rw [HI.out]; exact all_step _ _ _ _ hx hpx
        have HI2 := Lib.hid hVs
        clear hc hx hpx hVs
        go_wp2_with (first | (refine wpList_load_addr rfl _ _ rfl ⟨b, o + k * 18, none⟩ xv rfl HLD.out ?_) | (go_at_call 40; refine (HC.out).mono ?_; rintro e w2 ⟨rfl, hb2⟩))
        exact ⟨⟨k + 1, by omega, by go_num, HI2, bstep hb hb2⟩, by simp [intOf]; omega⟩
    · have hVt : V = true := by rw [HI.out, List.drop_eq_nil_of_le (by have := HL.out; omega)]; rfl
      subst hVt
      rw [Bool.true_and]
      go_wp2
      go_ret
      exact ⟨rfl, hb⟩
end Go.Proofs.YtjhlpkhfdghngaaGreatDoor
namespace Go.Proofs.YtjhlpkhfdghngaaGreatDoor
open Go.RowKit Go.Sort
set_option linter.unusedVariables false
set_option linter.unusedSimpArgs false
set_option maxRecDepth 100000
set_option maxHeartbeats 4000000 in
theorem rNames22_any (A : Option Addr) (n c : Nat) (xs : List ByteArray) (w : World) (hA : Reads w 1 A n (xs.map .string)) (hn : n ≤ 1000000) (hsz : ∀ s ∈ xs, s.size ≤ 100000) : Calls Tryz.prog 55 #[.slice A n c] w (Ret w (.bool (namesA xs))) := by
  have hl : xs.length = n := by have := hA.1; simp at this; omega
  obtain ⟨V, hV⟩ : ∃ V, V = namesA xs := ⟨_, rfl⟩
  rw [← hV]
  have cN := fun (s : ByteArray) (hs : s.size ≤ 100000) (W : World) => rName_any s W (by omega)
  have HN := Lib.hid cN
  have HA := Lib.hid hA; have HL := Lib.hid hl; have HV := Lib.hid hV; have HS := Lib.hid hsz
  clear hA hl hV hsz cN
  go_enter Tryz.func55, Tryz.ntmps55
  go_wp2
  go_loopw [3] (fun i wr => ∃ k : Nat, k ≤ n ∧ i = .int .i64 k ∧ Hid ((List.range k).all (okK ltB isNameB xs) = true) ∧ Below w.heap.size w wr) (fun i _ => n - (intOf i).toNat)
  case atStart => exact ⟨0, by omega, rfl, Lib.hid rfl, Below.refl _ _⟩
  case round =>
    obtain ⟨k, hk, rfl, HK, hb⟩ := hrel
    by_cases hlt : k < n
    · obtain ⟨u, hu⟩ : ∃ u, xs[k]? = some u := ⟨_, List.getElem?_eq_getElem (by have := HL.out; omega)⟩
      obtain ⟨pb, po, rfl, hcell⟩ := (HA.out.keep hb).2 (by omega)
      have hc1 : wr.cell? ⟨pb, po + k, none⟩ = some (.string u) := hcell k _ (by simp [hu])
      have hNu := HN.out u (by have := HS.out u (List.mem_of_getElem? hu); omega)
      have hk0 : (0 : Int) ≤ (k : Int) := by omega
      have hk1 : (k : Int) < (n : Int) := by omega
      cases hnu : isNameB u
      · obtain rfl : V = false := by
          rw [HV.out, namesA_fail (k := k) (by have := HL.out; omega) (by simp [okK, hu, hnu])]
        rw [hnu] at hNu
        have HNU := Lib.hid hNu
        clear HK hcell hu hNu hnu
        go_wp2_with (go_at_call 53; refine (HNU.out _).mono ?_; rintro e w2 ⟨rfl, hb2⟩)
        go_quiet (fail)
        go_wp2
        go_ret
        exact ⟨rfl, belB⟩
      · rw [hnu] at hNu
        have HNU := Lib.hid hNu
        rcases Nat.eq_zero_or_pos k with h0 | hpos
        · subst h0
          have HK2 : Hid ((List.range (0 + 1)).all (okK ltB isNameB xs) = true) := Lib.hid (okK_upto HK.out (by rw [okN_zero hu, hnu]))
          simp only [Nat.add_zero] at hc1
          clear HK hcell hu hNu hnu
          go_wp2_with (go_at_call 53; refine (HNU.out _).mono ?_; rintro e w2 ⟨rfl, hb2⟩)
          go_quiet (fail)
          go_wp2
          exact ⟨⟨1, by omega, rfl, HK2, belB⟩, by simp [intOf]; omega⟩
        · obtain ⟨j, rfl⟩ : ∃ j, k = j + 1 := ⟨k - 1, by omega⟩
          obtain ⟨y, hy⟩ : ∃ y, xs[j]? = some y := ⟨_, List.getElem?_eq_getElem (by have := HL.out; omega)⟩
          have hc2 : wr.cell? ⟨pb, po + j, none⟩ = some (.string y) := hcell j _ (by simp [hy])
          have hk2 : (0 : Int) ≤ (j : Int) := by omega
          have hk3 : (j : Int) < (n : Int) := by omega
          have hk4 : ((j : Int) + 1 - 1) = j := by omega
          have hle := le_prev2 u y
          have hat := okN_at hu hy
          rw [hnu, Bool.true_and] at hat
          cases ht : ltB y u
          · obtain rfl : V = false := by
              rw [HV.out, namesA_fail (k := j + 1) (by have := HL.out; omega) (by rw [hat, ht])]
            rw [ht] at hle
            clear HK hcell hu hy hat ht hNu hnu
            go_wp2_with (go_at_call 53; refine (HNU.out _).mono ?_; rintro e w2 ⟨rfl, hb2⟩; have hc2' := cell_keep hb2 hc2; have hc1' := cell_keep hb2 hc1)
            go_quiet (fail)
            go_wp2
            go_ret
            exact ⟨rfl, belB⟩
          · have HK2 : Hid ((List.range (j + 1 + 1)).all (okK ltB isNameB xs) = true) := Lib.hid (okK_upto HK.out (by rw [hat, ht]))
            rw [ht] at hle
            clear HK hcell hu hy hat ht hNu hnu
            go_wp2_with (go_at_call 53; refine (HNU.out _).mono ?_; rintro e w2 ⟨rfl, hb2⟩; have hc2' := cell_keep hb2 hc2; have hc1' := cell_keep hb2 hc1)
            go_quiet (fail)
            go_wp2
            exact ⟨⟨j + 1 + 1, by omega, by go_num, HK2, belB⟩, by simp [intOf]; omega⟩
    · obtain rfl : V = true := by
        rw [HV.out]
        unfold namesA
        have := HK.out
        rw [show k = xs.length by have := HL.out; omega] at this
        exact this
      go_wp2
      go_ret
      exact ⟨rfl, hb⟩
end Go.Proofs.YtjhlpkhfdghngaaGreatDoor
namespace Go.Proofs.YtjhlpkhfdghngaaGreatDoor
open Go.RowKit Go.Sort
set_option linter.unusedVariables false
set_option linter.unusedSimpArgs false
set_option maxRecDepth 100000
def exOpen : List Value := [.int .i64 0, .int .i64 1099511627777, .string ⟨#[]⟩, .slice none 0 0, .slice none 0 0, .slice none 0 0, .int .i64 0]
def exOne (T : Nat) (sg : Bool) : List Value := [.string (⟨#[114, 49]⟩ : ByteArray), .string (⟨#[97, 99, 109, 101, 47, 110, 101, 119, 115, 47, 42, 42]⟩ : ByteArray), .slice (some ⟨T, 0, none⟩) 1 1, .int .i64 10, .int .i64 0, .int .i64 0, .int .i64 0, .slice none 0 0, .int .i64 0, .int .i64 1099511627777, .string ⟨#[]⟩, .slice none 0 0, .slice none 0 0, .slice none 0 0, .int .i64 0, .bool sg, .int .i64 0, .string ⟨#[]⟩]
def exTwo (sg : Bool) : List Value := [.string (⟨#[114, 50]⟩ : ByteArray), .string (⟨#[97, 99, 109, 101, 47, 42, 42]⟩ : ByteArray), .slice none 0 0, .int .i64 100, .int .i64 50, .int .i64 1000, .int .i64 5, .slice none 0 0, .int .i64 0, .int .i64 1099511627777, .string ⟨#[]⟩, .slice none 0 0, .slice none 0 0, .slice none 0 0, .int .i64 0, .bool sg, .int .i64 0, .string ⟨#[]⟩]
def ruleZ : Array Value := #[.string ⟨#[]⟩, .string ⟨#[]⟩, .slice none 0 0, .int .i64 0, .int .i64 0, .int .i64 0, .int .i64 0, .slice none 0 0, .int .i64 0, .int .i64 0, .string ⟨#[]⟩, .slice none 0 0, .slice none 0 0, .slice none 0 0, .int .i64 0, .bool false, .int .i64 0, .string ⟨#[]⟩]
theorem run_bs (T : Nat) (w : World) : (Instr.buildSlice 22 2 #[(0, .agg (exOne T false).toArray), (1, .agg (exTwo false).toArray)]).run Tryz.prog w = .ok (.slice (some ⟨w.heap.size, 0, none⟩) 2 2) (w.alloc (.cells (exOne T false ++ exTwo false).toArray 33)) := by kernel_rfl
theorem run_b1 (T : Nat) (w : World) : (Instr.build 33 #[(0, .string (⟨#[114, 49]⟩ : ByteArray)), (1, .string (⟨#[97, 99, 109, 101, 47, 110, 101, 119, 115, 47, 42, 42]⟩ : ByteArray)), (2, .slice (some ⟨T, 0, none⟩) 1 1), (3, .int .i64 10), (8, .agg exOpen.toArray)]).run Tryz.prog w = .ok (.agg (exOne T false).toArray) w := by kernel_rfl
theorem run_b2 (w : World) : (Instr.build 33 #[(0, .string (⟨#[114, 50]⟩ : ByteArray)), (1, .string (⟨#[97, 99, 109, 101, 47, 42, 42]⟩ : ByteArray)), (3, .int .i64 100), (4, .int .i64 50), (5, .int .i64 1000), (6, .int .i64 5), (8, .agg exOpen.toArray)]).run Tryz.prog w = .ok (.agg (exTwo false).toArray) w := by kernel_rfl
theorem inf18s : (Tryz.prog.info? 33).map (·.size) = some 18 := by kernel_rfl
theorem inf3 : (Tryz.prog.info? 24).map (·.size) = some 3 := by kernel_rfl
theorem inf7 : (Tryz.prog.info? 31).map (·.size) = some 7 := by kernel_rfl
theorem two_more (W : World) (n : Nat) (hn : W.heap.size = n) (o : Obj) (Z X : Array Value) (t : TypeId) : (((W.alloc o).alloc (.cells Z t)).setRow (n + 1) X).heap[n]? = some o ∧ (((W.alloc o).alloc (.cells Z t)).setRow (n + 1) X).heap[n + 1]? = some (.cells X t (0, 0)) ∧ (((W.alloc o).alloc (.cells Z t)).setRow (n + 1) X).heap.size = n + 2 ∧ Below n W (((W.alloc o).alloc (.cells Z t)).setRow (n + 1) X) := by
  subst hn
  have e := setRow_alloc (W.alloc o) Z X t
  have e2 : (W.alloc o).heap.size = W.heap.size + 1 := by simp
  rw [e2] at e
  rw [e]
  exact ⟨heap_alloc2_old W _ _, heap_alloc2_new W _ _, by simp, ((Below.refl W.heap.size W).alloc (Nat.le_refl _) _).alloc (by simp) _⟩
theorem one_more (W : World) (n : Nat) (hn : W.heap.size = n) (Z X : Array Value) (t : TypeId) : ((W.alloc (.cells Z t)).setRow n X).heap[n]? = some (.cells X t (0, 0)) ∧ ((W.alloc (.cells Z t)).setRow n X).heap.size = n + 1 ∧ Below n W ((W.alloc (.cells Z t)).setRow n X) := by
  subst hn
  rw [setRow_alloc W Z X t]
  exact ⟨heap_alloc_new W _, by simp, (Below.refl W.heap.size W).alloc (Nat.le_refl _) _⟩
structure ExPost (w : World) (e : Ending) (w' : World) : Prop where
  out : e = .returned (.agg #[.string (⟨#[97, 99, 109, 101]⟩ : ByteArray), .int .i64 9, .slice (some ⟨w.heap.size + 5, 0, none⟩) 2 2])
  row : RowV w' (w.heap.size + 5) 33 (exOne (w.heap.size + 2) false ++ exTwo false)
  tags : RowV w' (w.heap.size + 2) 9 [.string (⟨#[104, 111, 116]⟩ : ByteArray)]
  below : Below w.heap.size w w'
set_option maxHeartbeats 4000000 in
theorem example22_any (w : World) : Calls Tryz.prog 41 #[] w (ExPost w) := by
  obtain ⟨X, hX⟩ : ∃ X, X = (exOne (w.heap.size + 2) false).toArray := ⟨_, rfl⟩
  obtain ⟨Y, hY⟩ : ∃ Y, Y = (exTwo false).toArray := ⟨_, rfl⟩
  obtain ⟨Z, hZ⟩ : ∃ Z, Z = (exOne (w.heap.size + 2) false ++ exTwo false).toArray := ⟨_, rfl⟩
  obtain ⟨C, hC⟩ : ∃ C, C = exOpen.toArray := ⟨_, rfl⟩
  have hb1 := fun W => run_b1 (w.heap.size + 2) W
  have hb2 := fun W => run_b2 W
  have hbs := fun W => run_bs (w.heap.size + 2) W
  rw [← hC, ← hX] at hb1
  rw [← hC, ← hY] at hb2
  rw [← hX, ← hY, ← hZ] at hbs
  have sX : X.size = 18 := by rw [hX]; rfl
  have sY : Y.size = 18 := by rw [hY]; rfl
  have sC : C.size = 7 := by rw [hC]; rfl
  have iX : (Tryz.prog.info? 33).map (·.size) = some X.size := by rw [sX]; exact inf18s
  have iY : (Tryz.prog.info? 33).map (·.size) = some Y.size := by rw [sY]; exact inf18s
  have iC : (Tryz.prog.info? 31).map (·.size) = some C.size := by rw [sC]; exact inf7
  have oX : X.all (·.oneCell') = true := by rw [hX, List.all_toArray]; rfl
  have oY : Y.all (·.oneCell') = true := by rw [hY, List.all_toArray]; rfl
  have hCl : (#[.int .i64 0, .int .i64 1099511627777, .string ⟨#[]⟩, .slice none 0 0, .slice none 0 0, .slice none 0 0, .int .i64 0] : Array Value) = C := hC.symm
  have HCL := Lib.hid hCl; have HX := Lib.hid sX; have HY := Lib.hid sY; have HZ := Lib.hid hZ; have HB1 := Lib.hid hb1; have HB2 := Lib.hid hb2; have HBS := Lib.hid hbs; have IX := Lib.hid iX; have IY := Lib.hid iY; have IC := Lib.hid iC; have OX := Lib.hid oX; have OY := Lib.hid oY
  clear hX hY hZ hC hCl hb1 hb2 hbs sX sY sC iX iY iC oX oY
  go_enter Tryz.func41, Tryz.ntmps41
  go_upto_region 2 with fail
  rw [HCL.out]
  clear HCL
  generalize hW : World.alloc _ _ = W
  have b0 : W.heap[w.heap.size]? = some (.cells #[.string ⟨#[]⟩, .int .i64 0, .slice none 0 0] 24 (0, 0)) := by rw [← hW]; exact heap_alloc2_old w _ _
  have b1 : W.heap[w.heap.size + 1]? = some (.cells C 31 (0, 0)) := by rw [← hW]; exact heap_alloc2_new w _ _
  have hbw : Below w.heap.size w W := by rw [← hW]; exact belB
  have hsz : W.heap.size = w.heap.size + 2 := by rw [← hW]; simp
  clear hW
  have hz33 : ∀ o t, ((W.alloc o).alloc (.cells ruleZ t)).heap[w.heap.size + 3]? = some (.cells ruleZ t (0, 0)) := fun o t => by
    have := heap_alloc2_new W o (.cells ruleZ t)
    rw [hsz] at this
    exact this
  go_upto_region 3 with (first
    | (refine wpList_load_row rfl _ _ rfl (w.heap.size + 1) rfl _ C (0, 0) _ ((heap_alloc_old W _ (by omega)).trans b1) Tryz.underlying31 rfl IC.out ?_)
    | (refine wpList_build_as rfl _ _ rfl _ (by kernel_rfl) _ (HB1.out _) ?_)
    | (refine wpList_store_row rfl _ _ _ rfl (w.heap.size + 3) X rfl rfl _ ruleZ (hz33 _ _) IX.out (HX.out ▸ rfl) OX.out ?_))
  have h2 := two_more W (w.heap.size + 2) hsz (.cells #[.string (⟨#[104, 111, 116]⟩ : ByteArray)] 9) ruleZ X 33
  unfold ruleZ at h2
  generalize hW2 : World.setRow _ _ _ = W2
  rw [hW2] at h2
  obtain ⟨q2, q3, hsz2, hb2⟩ := h2
  have q0 : W2.heap[w.heap.size]? = some (.cells #[.string ⟨#[]⟩, .int .i64 0, .slice none 0 0] 24 (0, 0)) := (hb2.block _ (by omega)).trans b0
  have q1 : W2.heap[w.heap.size + 1]? = some (.cells C 31 (0, 0)) := (hb2.block _ (by omega)).trans b1
  have hbw2 : Below w.heap.size w W2 := hbw.trans (hb2.mono (by omega))
  clear hW2 hz33 b0 b1 hb2 hbw hsz
  have hz34 : ∀ t, (W2.alloc (.cells ruleZ t)).heap[w.heap.size + 4]? = some (.cells ruleZ t (0, 0)) := fun t => by
    have := heap_alloc_new W2 (.cells ruleZ t)
    rw [hsz2] at this
    exact this
  go_upto_region 4 with (first
    | (refine wpList_load_row rfl _ _ rfl (w.heap.size + 1) rfl _ C (0, 0) _ q1 Tryz.underlying31 rfl IC.out ?_)
    | (refine wpList_build_as rfl _ _ rfl _ (by kernel_rfl) _ (HB2.out _) ?_)
    | (refine wpList_store_row rfl _ _ _ rfl (w.heap.size + 4) Y rfl rfl _ ruleZ (hz34 _) IY.out (HY.out ▸ rfl) OY.out ?_))
  have h3 := one_more W2 (w.heap.size + 4) (by omega) ruleZ Y 33
  unfold ruleZ at h3
  generalize hW3 : World.setRow _ _ _ = W3
  rw [hW3] at h3
  obtain ⟨p4, hsz3, hb3⟩ := h3
  have p0 := (hb3.block _ (by omega)).trans q0
  have p2 := (hb3.block _ (by omega)).trans q2
  have p3 := (hb3.block _ (by omega)).trans q3
  have hbw3 : Below w.heap.size w W3 := hbw2.trans (hb3.mono (by omega))
  clear hW3 hz34 q0 q1 q2 q3 hb3 hbw2 hsz2
  go_wp2_with (first
    | (refine wpList_load_row rfl _ _ rfl (w.heap.size + 3) rfl _ X (0, 0) _ p3 Tryz.underlying33 rfl IX.out ?_)
    | (refine wpList_load_row rfl _ _ rfl (w.heap.size + 4) rfl _ Y (0, 0) _ p4 Tryz.underlying33 rfl IY.out ?_)
    | (refine wpList_buildSlice_as rfl _ _ _ rfl _ (by kernel_rfl) _ _ (HBS.out _) ?_)
    | (refine wpList_store_row rfl _ _ _ rfl w.heap.size #[.string (⟨#[97, 99, 109, 101]⟩ : ByteArray), .int .i64 9, .slice (some ⟨w.heap.size + 4 + 1, 0, none⟩) 2 2] rfl rfl _ #[.string ⟨#[]⟩, .int .i64 0, .slice none 0 0] ((heap_alloc_old W3 _ (by omega)).trans p0) inf3 rfl (by simp [Value.oneCell']) ?_))
  generalize hW4 : World.setRow _ _ _ = W4
  have a5 : W4.heap[w.heap.size + 5]? = some (.cells Z 33 (0, 0)) := by
    rw [← hW4, setRow_other]
    rotate_left
    · omega
    have := heap_alloc_new W3 (.cells Z 33)
    rw [hsz3] at this
    exact this
  have a2 : W4.heap[w.heap.size + 2]? = some (.cells #[.string (⟨#[104, 111, 116]⟩ : ByteArray)] 9 (0, 0)) := by
    rw [← hW4]
    exact (setRow_other _ _ _ _ (by omega)).trans ((heap_alloc_old W3 _ (by omega)).trans p2)
  have a0 : W4.heap[w.heap.size]? = some (.cells #[.string (⟨#[97, 99, 109, 101]⟩ : ByteArray), .int .i64 9, .slice (some ⟨w.heap.size + 4 + 1, 0, none⟩) 2 2] 24 (0, 0)) := by
    rw [← hW4]
    exact setRow_heap _ _ _ _ _ _ ((heap_alloc_old W3 _ (by omega)).trans p0)
  have hbw4 : Below w.heap.size w W4 := by rw [← hW4]; exact below_setRow (hbw3.alloc (by omega) _) (Nat.le_refl _) _
  rw [HZ.out] at a5
  exact bodyPost_ret (v := .agg #[.string (⟨#[97, 99, 109, 101]⟩ : ByteArray), .int .i64 9, .slice (some ⟨w.heap.size + 4 + 1, 0, none⟩) 2 2]) (results_cell_row rfl _ _ _ _ _ _ _ rfl a0 Tryz.underlying24 rfl inf3) rfl ⟨rfl, a5, a2, hbw4⟩
end Go.Proofs.YtjhlpkhfdghngaaGreatDoor
namespace Go.Proofs.YtjhlpkhfdghngaaGreatDoor
open Go.RowKit Go.Sort
set_option linter.unusedVariables false
set_option linter.unusedSimpArgs false
set_option maxRecDepth 100000
set_option maxHeartbeats 8000000 in
theorem until_any (x : RuleM) (hok : RuleOk x.r) (s : StampV) (state : Int) (h0 : 0 ≤ s.lo) (h1 : s.lo ≤ 1099511627776) (hs : state = 0 ∨ state = 1 ∨ state = 2) (w : World) :
    Calls Tryz.prog 45 #[x.val, s.val, .int .i64 state] w (Ret w (.int .i64 (untilR x.r s.status s.lo state))) := by
  have hm := fun W => maxAge_any x hok s.status state hs W
  have hmb := maxAge_bounds hok s.status state
  unfold untilR
  generalize maxAgeR x.r s.status state = ma at *
  obtain ⟨X, hX⟩ : ∃ X, X = x.cells.toArray := ⟨_, rfl⟩
  obtain ⟨Y, hY⟩ : ∃ Y, Y = s.cells.toArray := ⟨_, rfl⟩
  have hXs : X.size = 18 := by rw [hX]; rfl
  have hYs : Y.size = 41 := by rw [hY]; rfl
  have eX : x.val = .agg X := by rw [hX]; rfl
  have eY : s.val = .agg Y := by rw [hY]; rfl
  have hY2 : Y[2]? = some (.int .i64 s.status) := by rw [hY]; rfl
  have hY21 : Y[21]? = some (.int .i64 s.lo) := by rw [hY]; rfl
  have a1 : IntKind.i64.wrap (s.lo + ma) = s.lo + ma := IntWalk.i64_in _ (by omega)
  simp only [eX, eY] at hm ⊢
  have HM := Lib.hid hm; have HXS := Lib.hid hXs; have HYS := Lib.hid hYs; have HY2 := Lib.hid hY2; have HY21 := Lib.hid hY21
  clear hm hX hY hXs hYs eX eY hY2 hY21 hok hs
  generalize s.status = st at *
  generalize s.lo = sl at *
  obtain ⟨m0, m1⟩ := hmb
  go_enter Tryz.func45, Tryz.ntmps45
  go_upto_region 1 with fail
  generalize hw0 : World.alloc _ _ = w0
  have hB0 : Box2 w X Y w0 := by
    rw [← hw0]
    exact ⟨(alloc2_box w _ _).1, (alloc2_box w _ _).2, belB⟩
  have HB0 := Lib.hid hB0
  clear hw0 hB0
  refine wp_det 10 (by kernel_rfl) (by kernel_rfl) (by kernel_rfl) (fun i => [.pointer (some ⟨w.heap.size + 1, 21, none⟩), .pointer (some ⟨w.heap.size + 1, 21, none⟩), .int .i64 sl, .agg X, .pointer (some ⟨w.heap.size + 1, 2, none⟩), .int .i64 st, .int .i64 state, .int .i64 ma, .int .i64 (sl + ma), .int .i64 (min 1099511627776 (sl + ma))].getD i undef) (Box2 w X Y) (HB0.out.keep (Below.drew (Below.refl _ _))) (fun _ _ h hb => h.keep hb) ?_ ?_
  · simp only [putL, List.take_succ_cons, List.take_zero, List.drop_succ_cons, List.drop_zero, Act.put, List.setIfInBounds_toArray, List.set_cons_succ, List.set_cons_zero, List.getD_cons_zero, List.getD_cons_succ]
    refine ⟨fun W hS => ?_, fun W hS => ?_, fun W hS => ?_, fun W hS => ?_, fun W hS => ?_, fun W hS => ?_, fun W hS => ?_, fun W hS => ?_, fun W hS => ?_, fun W hS => ?_, trivial⟩
    all_goals
      have y2 := hS.y.cell HY2.out
      have y21 := hS.y.cell HY21.out
      go_wp2_with (first | (refine wpList_load_addr rfl 33 _ rfl ⟨w.heap.size, 0, none⟩ (.agg X) rfl (hS.x.rule HXS.out) ?_) | (refine wpList_load_addr rfl 82 _ rfl ⟨w.heap.size + 1, 0, none⟩ (.agg Y) rfl (hS.y.stamp HYS.out) ?_) | (go_at_call 44; refine (HM.out _).mono ?_; rintro e w2 ⟨rfl, hb2⟩))
      exact ⟨rfl, rfl, belB⟩
  · intro w' hS
    have hb := hS.b
    simp only [putL, List.take_succ_cons, List.take_zero, List.drop_succ_cons, List.drop_zero, Act.put, List.setIfInBounds_toArray, List.set_cons_succ, List.set_cons_zero, List.getD_cons_zero, List.getD_cons_succ]
    go_wp2
    go_ret
    exact ⟨rfl, hb⟩
end Go.Proofs.YtjhlpkhfdghngaaGreatDoor
namespace Go.Proofs.YtjhlpkhfdghngaaGreatDoor
open Go.RowKit Go.Sort
set_option linter.unusedVariables false
set_option linter.unusedSimpArgs false
set_option maxRecDepth 100000
set_option maxHeartbeats 8000000 in
theorem young_any (x : RuleM) (hok : RuleOk x.r) (s : StampV) (lo hi state : Int) (h0 : 0 ≤ s.lo) (h1 : s.lo ≤ 1099511627776) (hs : state = 0 ∨ state = 1 ∨ state = 2) (w : World) :
    Calls Tryz.prog 46 #[x.val, s.val, perV lo hi, .int .i64 state] w (Ret w (.bool (youngR x.r s.status s.lo hi state))) := by
  have hm := fun W => maxAge_any x hok s.status state hs W
  have hmb := maxAge_bounds hok s.status state
  unfold youngR
  generalize maxAgeR x.r s.status state = ma at *
  have hag := fun W => before_any lo hi (s.lo + ma + 1) W
  have a1 : IntKind.i64.wrap (s.lo + ma) = s.lo + ma := IntWalk.i64_in _ (by omega)
  have a2 : IntKind.i64.wrap (s.lo + ma + 1) = s.lo + ma + 1 := IntWalk.i64_in _ (by omega)
  obtain ⟨X, hX⟩ : ∃ X, X = x.cells.toArray := ⟨_, rfl⟩
  obtain ⟨Y, hY⟩ : ∃ Y, Y = s.cells.toArray := ⟨_, rfl⟩
  obtain ⟨Z, hZ⟩ : ∃ Z : Array Value, Z = #[.int .i64 lo, .int .i64 hi] := ⟨_, rfl⟩
  have hXs : X.size = 18 := by rw [hX]; rfl
  have hYs : Y.size = 41 := by rw [hY]; rfl
  have hZs : Z.size = 2 := by rw [hZ]; rfl
  have eX : x.val = .agg X := by rw [hX]; rfl
  have eY : s.val = .agg Y := by rw [hY]; rfl
  have eZ : perV lo hi = .agg Z := by rw [hZ]; rfl
  have hY2 : Y[2]? = some (.int .i64 s.status) := by rw [hY]; rfl
  have hY21 : Y[21]? = some (.int .i64 s.lo) := by rw [hY]; rfl
  simp only [eX, eY, eZ] at hm hag ⊢
  have HM := Lib.hid hm; have HAG := Lib.hid hag; have HXS := Lib.hid hXs; have HYS := Lib.hid hYs; have HZS := Lib.hid hZs; have HY2 := Lib.hid hY2; have HY21 := Lib.hid hY21
  obtain ⟨m0, m1⟩ := hmb
  clear hm hag hX hY hZ hXs hYs hZs eX eY eZ hY2 hY21 hok hs
  generalize s.status = st at *
  generalize s.lo = sl at *
  go_enter Tryz.func46, Tryz.ntmps46
  go_upto_region 1 with fail
  generalize hw0 : World.alloc _ _ = w0
  have hB0 : Box3 w X Y Z w0 := by
    rw [← hw0]
    exact ⟨(alloc3_heap w _ _ _).1, (alloc3_heap w _ _ _).2.1, (alloc3_heap w _ _ _).2.2, belB⟩
  have HB0 := Lib.hid hB0
  clear hw0 hB0
  refine wp_det 12 (by kernel_rfl) (by kernel_rfl) (by kernel_rfl) (fun i => [.agg Z, .pointer (some ⟨w.heap.size + 1, 21, none⟩), .pointer (some ⟨w.heap.size + 1, 21, none⟩), .int .i64 sl, .agg X, .pointer (some ⟨w.heap.size + 1, 2, none⟩), .int .i64 st, .int .i64 state, .int .i64 ma, .int .i64 (sl + ma), .int .i64 (sl + ma + 1), .bool (decide (hi < sl + ma + 1))].getD i undef) (Box3 w X Y Z) (HB0.out.keep (Below.drew (Below.refl _ _))) (fun _ _ h hb => h.keep hb) ?_ ?_
  · simp only [putL, List.take_succ_cons, List.take_zero, List.drop_succ_cons, List.drop_zero, Act.put, List.setIfInBounds_toArray, List.set_cons_succ, List.set_cons_zero, List.getD_cons_zero, List.getD_cons_succ]
    refine ⟨fun W hS => ?_, fun W hS => ?_, fun W hS => ?_, fun W hS => ?_, fun W hS => ?_, fun W hS => ?_, fun W hS => ?_, fun W hS => ?_, fun W hS => ?_, fun W hS => ?_, fun W hS => ?_, fun W hS => ?_, trivial⟩
    all_goals
      have y2 := hS.y.cell HY2.out
      have y21 := hS.y.cell HY21.out
      go_wp2_with (first | (refine wpList_load_addr rfl 33 _ rfl ⟨w.heap.size, 0, none⟩ (.agg X) rfl (hS.x.rule HXS.out) ?_) | (refine wpList_load_addr rfl 82 _ rfl ⟨w.heap.size + 1, 0, none⟩ (.agg Y) rfl (hS.y.stamp HYS.out) ?_) | (refine wpList_load_addr rfl 53 _ rfl ⟨w.heap.size + 2, 0, none⟩ (.agg Z) rfl (hS.z.period HZS.out) ?_) | (go_at_call 106; refine (HAG.out _).mono ?_; rintro e w2 ⟨rfl, hb2⟩) | (go_at_call 44; refine (HM.out _).mono ?_; rintro e w2 ⟨rfl, hb2⟩))
      exact ⟨rfl, rfl, belB⟩
  · intro w' hS
    have hb := hS.b
    simp only [putL, List.take_succ_cons, List.take_zero, List.drop_succ_cons, List.drop_zero, Act.put, List.setIfInBounds_toArray, List.set_cons_succ, List.set_cons_zero, List.getD_cons_zero, List.getD_cons_succ]
    go_wp2
    go_ret
    exact ⟨rfl, hb⟩
end Go.Proofs.YtjhlpkhfdghngaaGreatDoor
namespace Go.Proofs.YtjhlpkhfdghngaaGreatDoor
open Go.RowKit Go.Sort
set_option linter.unusedVariables false
set_option linter.unusedSimpArgs false
set_option maxRecDepth 100000
set_option maxHeartbeats 8000000 in
theorem usable_0 (x : RuleM) (hok : RuleOk x.r) (s : StampV) (lo hi state : Int) (h0 : 0 ≤ s.lo) (h1 : s.lo ≤ 1099511627776) (hs : state = 0 ∨ state = 1 ∨ state = 2) (w : World) : Calls Tryz.prog 47 #[x.val, s.val, perV lo hi, .int .i64 state, .int .i64 0] w (Ret w (.bool (youngR x.r s.status s.lo hi state))) := by
  have hy := fun W => young_any x hok s lo hi state h0 h1 hs W
  generalize youngR x.r s.status s.lo hi state = yo at *
  obtain ⟨X, hX⟩ : ∃ X, X = x.cells.toArray := ⟨_, rfl⟩
  obtain ⟨Y, hY⟩ : ∃ Y, Y = s.cells.toArray := ⟨_, rfl⟩
  obtain ⟨Z, hZ⟩ : ∃ Z : Array Value, Z = #[.int .i64 lo, .int .i64 hi] := ⟨_, rfl⟩
  have hXs : X.size = 18 := by rw [hX]; rfl
  have hYs : Y.size = 41 := by rw [hY]; rfl
  have hZs : Z.size = 2 := by rw [hZ]; rfl
  have eX : x.val = .agg X := by rw [hX]; rfl
  have eY : s.val = .agg Y := by rw [hY]; rfl
  have eZ : perV lo hi = .agg Z := by rw [hZ]; rfl
  simp only [eX, eY, eZ] at hy ⊢
  have iX : (Tryz.prog.info? 33).map (·.size) = some X.size := by rw [hXs]; kernel_rfl
  have iY : (Tryz.prog.info? 82).map (·.size) = some Y.size := by rw [hYs]; kernel_rfl
  have iZ : (Tryz.prog.info? 53).map (·.size) = some Z.size := by rw [hZs]; kernel_rfl
  have l1 : ∀ W t fr, W.heap[w.heap.size]? = some (.cells X t fr) → (loadVar 33 ⟨w.heap.size, 0, none⟩).run Tryz.prog W = .ok (.agg X) W := fun W t fr h => run_loadVar_row (P := Tryz.prog) W w.heap.size t 33 X fr _ h Tryz.underlying33 rfl iX
  have l2 : ∀ W t fr, W.heap[w.heap.size + 1]? = some (.cells Y t fr) → (loadVar 82 ⟨w.heap.size + 1, 0, none⟩).run Tryz.prog W = .ok (.agg Y) W := fun W t fr h => run_loadVar_row (P := Tryz.prog) W (w.heap.size + 1) t 82 Y fr _ h Tryz.underlying82 rfl iY
  have l3 : ∀ W t fr, W.heap[w.heap.size + 2]? = some (.cells Z t fr) → (loadVar 53 ⟨w.heap.size + 2, 0, none⟩).run Tryz.prog W = .ok (.agg Z) W := fun W t fr h => run_loadVar_row (P := Tryz.prog) W (w.heap.size + 2) t 53 Z fr _ h Tryz.underlying53 rfl iZ
  have HY := Lib.hid hy; have L1 := Lib.hid l1; have L2 := Lib.hid l2; have L3 := Lib.hid l3
  clear hy hok hs h0 h1 hX hY hZ hXs hYs hZs eX eY eZ iX iY iZ l1 l2 l3
  go_enter Tryz.func47, Tryz.ntmps47
  go_upto_region 1 with fail
  generalize hw0 : World.alloc _ _ = w0
  have g1 : w0.heap[w.heap.size]? = some (.cells X 33 (0, 0)) := by rw [← hw0]; exact (alloc3_heap w _ _ _).1
  have g2 : w0.heap[w.heap.size + 1]? = some (.cells Y 82 (0, 0)) := by rw [← hw0]; exact (alloc3_heap w _ _ _).2.1
  have g3 : w0.heap[w.heap.size + 2]? = some (.cells Z 53 (0, 0)) := by rw [← hw0]; exact (alloc3_heap w _ _ _).2.2
  have hbw : Below w.heap.size w w0 := by rw [← hw0]; exact belB
  have r1 := L1.out w0 _ _ g1
  have r2 := L2.out w0 _ _ g2
  have r3 := L3.out w0 _ _ g3
  clear hw0 g1 g2 g3
  go_wp2_with (first | (go_big_want; first | (refine wp_load_addr 33 _ rfl ⟨w.heap.size, 0, none⟩ (.agg X) rfl r1 ?_; simp only [Act.put, List.setIfInBounds_toArray, List.set_cons_succ, List.set_cons_zero]) | (refine wp_load_addr 82 _ rfl ⟨w.heap.size + 1, 0, none⟩ (.agg Y) rfl r2 ?_; simp only [Act.put, List.setIfInBounds_toArray, List.set_cons_succ, List.set_cons_zero]) | (refine wp_load_addr 53 _ rfl ⟨w.heap.size + 2, 0, none⟩ (.agg Z) rfl r3 ?_; simp only [Act.put, List.setIfInBounds_toArray, List.set_cons_succ, List.set_cons_zero])) | (go_at_call 46; refine (HY.out _).mono ?_; rintro e w2 ⟨rfl, hb2⟩))
  go_ret
  exact ⟨rfl, belB⟩
set_option maxHeartbeats 8000000 in
theorem usable_1 (x : RuleM) (hok : RuleOk x.r) (s : StampV) (lo hi state : Int) (h0 : 0 ≤ s.lo) (h1 : s.lo ≤ 1099511627776) (hs : state = 0 ∨ state = 1 ∨ state = 2) (w : World) (hne : state ≠ 0) : Calls Tryz.prog 47 #[x.val, s.val, perV lo hi, .int .i64 state, .int .i64 1] w (Ret w (.bool (youngR x.r s.status s.lo hi state))) := by
  have d1 : (state != 0) = true := by simp [hne]
  have hy := fun W => young_any x hok s lo hi state h0 h1 hs W
  generalize youngR x.r s.status s.lo hi state = yo at *
  obtain ⟨X, hX⟩ : ∃ X, X = x.cells.toArray := ⟨_, rfl⟩
  obtain ⟨Y, hY⟩ : ∃ Y, Y = s.cells.toArray := ⟨_, rfl⟩
  obtain ⟨Z, hZ⟩ : ∃ Z : Array Value, Z = #[.int .i64 lo, .int .i64 hi] := ⟨_, rfl⟩
  have hXs : X.size = 18 := by rw [hX]; rfl
  have hYs : Y.size = 41 := by rw [hY]; rfl
  have hZs : Z.size = 2 := by rw [hZ]; rfl
  have eX : x.val = .agg X := by rw [hX]; rfl
  have eY : s.val = .agg Y := by rw [hY]; rfl
  have eZ : perV lo hi = .agg Z := by rw [hZ]; rfl
  simp only [eX, eY, eZ] at hy ⊢
  have iX : (Tryz.prog.info? 33).map (·.size) = some X.size := by rw [hXs]; kernel_rfl
  have iY : (Tryz.prog.info? 82).map (·.size) = some Y.size := by rw [hYs]; kernel_rfl
  have iZ : (Tryz.prog.info? 53).map (·.size) = some Z.size := by rw [hZs]; kernel_rfl
  have l1 : ∀ W t fr, W.heap[w.heap.size]? = some (.cells X t fr) → (loadVar 33 ⟨w.heap.size, 0, none⟩).run Tryz.prog W = .ok (.agg X) W := fun W t fr h => run_loadVar_row (P := Tryz.prog) W w.heap.size t 33 X fr _ h Tryz.underlying33 rfl iX
  have l2 : ∀ W t fr, W.heap[w.heap.size + 1]? = some (.cells Y t fr) → (loadVar 82 ⟨w.heap.size + 1, 0, none⟩).run Tryz.prog W = .ok (.agg Y) W := fun W t fr h => run_loadVar_row (P := Tryz.prog) W (w.heap.size + 1) t 82 Y fr _ h Tryz.underlying82 rfl iY
  have l3 : ∀ W t fr, W.heap[w.heap.size + 2]? = some (.cells Z t fr) → (loadVar 53 ⟨w.heap.size + 2, 0, none⟩).run Tryz.prog W = .ok (.agg Z) W := fun W t fr h => run_loadVar_row (P := Tryz.prog) W (w.heap.size + 2) t 53 Z fr _ h Tryz.underlying53 rfl iZ
  have HY := Lib.hid hy; have L1 := Lib.hid l1; have L2 := Lib.hid l2; have L3 := Lib.hid l3
  clear hy hok hs h0 h1 hX hY hZ hXs hYs hZs eX eY eZ iX iY iZ l1 l2 l3
  go_enter Tryz.func47, Tryz.ntmps47
  go_upto_region 1 with fail
  generalize hw0 : World.alloc _ _ = w0
  have g1 : w0.heap[w.heap.size]? = some (.cells X 33 (0, 0)) := by rw [← hw0]; exact (alloc3_heap w _ _ _).1
  have g2 : w0.heap[w.heap.size + 1]? = some (.cells Y 82 (0, 0)) := by rw [← hw0]; exact (alloc3_heap w _ _ _).2.1
  have g3 : w0.heap[w.heap.size + 2]? = some (.cells Z 53 (0, 0)) := by rw [← hw0]; exact (alloc3_heap w _ _ _).2.2
  have hbw : Below w.heap.size w w0 := by rw [← hw0]; exact belB
  have r1 := L1.out w0 _ _ g1
  have r2 := L2.out w0 _ _ g2
  have r3 := L3.out w0 _ _ g3
  clear hw0 g1 g2 g3
  go_wp2_with (first | (go_big_want; first | (refine wp_load_addr 33 _ rfl ⟨w.heap.size, 0, none⟩ (.agg X) rfl r1 ?_; simp only [Act.put, List.setIfInBounds_toArray, List.set_cons_succ, List.set_cons_zero]) | (refine wp_load_addr 82 _ rfl ⟨w.heap.size + 1, 0, none⟩ (.agg Y) rfl r2 ?_; simp only [Act.put, List.setIfInBounds_toArray, List.set_cons_succ, List.set_cons_zero]) | (refine wp_load_addr 53 _ rfl ⟨w.heap.size + 2, 0, none⟩ (.agg Z) rfl r3 ?_; simp only [Act.put, List.setIfInBounds_toArray, List.set_cons_succ, List.set_cons_zero])) | (go_at_call 46; refine (HY.out _).mono ?_; rintro e w2 ⟨rfl, hb2⟩))
  go_ret
  exact ⟨rfl, belB⟩
set_option maxHeartbeats 8000000 in
theorem usable_no (x : RuleM) (s : StampV) (lo hi : Int) (w : World) : Calls Tryz.prog 47 #[x.val, s.val, perV lo hi, .int .i64 0, .int .i64 1] w (Ret w (.bool false)) := by
  unfold RuleM.val StampV.val perV
  generalize x.cells.toArray = X
  generalize s.cells.toArray = Y
  go_enter Tryz.func47, Tryz.ntmps47
  go_wp2
  go_ret
  exact ⟨rfl, belB⟩
set_option maxHeartbeats 8000000 in
theorem usable_2 (x : RuleM) (s : StampV) (lo hi state purge : Int) (p0 : purge ≠ 0) (p1 : purge ≠ 1) (w : World) : Calls Tryz.prog 47 #[x.val, s.val, perV lo hi, .int .i64 state, .int .i64 purge] w (Ret w (.bool false)) := by
  have d0 : (purge == 0) = false := by simp [p0]
  have d1 : (purge == 1) = false := by simp [p1]
  unfold RuleM.val StampV.val perV
  generalize x.cells.toArray = X
  generalize s.cells.toArray = Y
  go_enter Tryz.func47, Tryz.ntmps47
  go_wp2
  go_ret
  exact ⟨rfl, belB⟩
theorem usable_any (x : RuleM) (hok : RuleOk x.r) (s : StampV) (lo hi state purge : Int) (h0 : 0 ≤ s.lo) (h1 : s.lo ≤ 1099511627776) (hs : state = 0 ∨ state = 1 ∨ state = 2) (w : World) :
    Calls Tryz.prog 47 #[x.val, s.val, perV lo hi, .int .i64 state, .int .i64 purge] w (Ret w (.bool (usableR x.r s.status s.lo hi state purge))) := by
  unfold usableR
  by_cases p0 : purge = 0
  · subst p0
    have e : ((decide ((0 : Int) = 0) || (decide ((0 : Int) = 1) && !decide (state = 0))) && youngR x.r s.status s.lo hi state) = youngR x.r s.status s.lo hi state := by simp
    rw [e]
    exact usable_0 x hok s lo hi state h0 h1 hs w
  · by_cases p1 : purge = 1
    · subst p1
      by_cases s0 : state = 0
      · subst s0
        have e : ((decide ((1 : Int) = 0) || (decide ((1 : Int) = 1) && !decide ((0 : Int) = 0))) && youngR x.r s.status s.lo hi 0) = false := by simp
        rw [e]
        exact usable_no x s lo hi w
      · have e : ((decide ((1 : Int) = 0) || (decide ((1 : Int) = 1) && !decide (state = 0))) && youngR x.r s.status s.lo hi state) = youngR x.r s.status s.lo hi state := by simp [s0]
        rw [e]
        exact usable_1 x hok s lo hi state h0 h1 hs w s0
    · have e : ((decide (purge = 0) || (decide (purge = 1) && !decide (state = 0))) && youngR x.r s.status s.lo hi state) = false := by simp [p0, p1]
      rw [e]
      exact usable_2 x s lo hi state purge p0 p1 w
end Go.Proofs.YtjhlpkhfdghngaaGreatDoor
namespace Go.Proofs.YtjhlpkhfdghngaaGreatDoor
open Go.RowKit Go.Sort
set_option linter.unusedVariables false
set_option linter.unusedSimpArgs false
set_option maxRecDepth 100000
set_option maxHeartbeats 4000000 in
theorem permits_any (x : RuleM) (a : AskV) (w : World) (hR : RuleReads w x) (hc : CondFits x.r.allow) (ha : AskFits a) (hE : Env w) :
    Calls Tryz.prog 29 #[x.val, AskV.val a] w (Ret w (.bool (holdsC x.r.allow a))) := by
  have hh := fun W (hb : Below w.heap.size w W) => holds_any x.r.allow x.m a W (hR.allow.keep hb) hc ha (Env.keep hE hb)
  generalize holdsC x.r.allow a = V at *
  rw [RuleM.val_eq]
  unfold CondMem.val AskV.val at *
  have HH := Lib.hid hh
  clear hh hR hc ha hE
  go_enter Tryz.func29, Tryz.ntmps29
  go_wp2_with (go_at_call 91; refine (HH.out _ belB).mono ?_; rintro e w2 ⟨rfl, hb2⟩)
  go_ret
  exact ⟨rfl, belB⟩
end Go.Proofs.YtjhlpkhfdghngaaGreatDoor
namespace Go.Proofs.YtjhlpkhfdghngaaGreatDoor
open Go.RowKit Go.Sort
set_option linter.unusedVariables false
set_option linter.unusedSimpArgs false
set_option maxRecDepth 100000
set_option maxHeartbeats 4000000 in
theorem rSame22_eq (A B : Option Addr) (n c c2 : Nat) (l : List Nat) (w : World) (hA : Reads w 1 A n (i64s l)) (hB : Reads w 1 B n (i64s l)) (hn : n ≤ 1000000) : Calls Tryz.prog 42 #[.slice A n c, .slice B n c2] w (Ret w (.bool true)) := by
  have hl : l.length = n := by have := hA.1; simpa [i64s] using this
  have HL := Lib.hid hl
  have HA := Lib.hid hA
  have HB := Lib.hid hB
  clear hl hA hB
  go_enter Tryz.func42, Tryz.ntmps42
  go_wp2
  go_loopw [5] (fun vi wr => ∃ k : Nat, vi = .int .i64 k ∧ k ≤ n ∧ Below w.heap.size w wr) (fun i _ => n - (intOf i).toNat)
  case atStart => exact ⟨0, rfl, Nat.zero_le _, Below.refl _ _⟩
  case round =>
    obtain ⟨k, rfl, hk, hbr⟩ := hrel
    by_cases hlt : k < n
    · obtain ⟨x, hx⟩ : ∃ x, l[k]? = some x := ⟨_, List.getElem?_eq_getElem (by have := HL.out; omega)⟩
      obtain ⟨b, o, rfl, hcell⟩ := (HA.out.keep hbr).2 (by omega)
      obtain ⟨b2, o2, rfl, hcell2⟩ := (HB.out.keep hbr).2 (by omega)
      have hc1 : wr.cell? ⟨b, o + k, none⟩ = some (.int .i64 (x : Int)) := hcell k _ (by simp [i64s, hx])
      have hc2 : wr.cell? ⟨b2, o2 + k, none⟩ = some (.int .i64 (x : Int)) := hcell2 k _ (by simp [i64s, hx])
      have hk0 : (0 : Int) ≤ (k : Int) := by omega
      have hk1 : (k : Int) < (n : Int) := by omega
      clear hcell hcell2 hx
      go_wp2_with fail
      go_quiet (fail)
      go_wp2
      exact ⟨⟨k + 1, by go_num, by omega, belB⟩, by simp [intOf]; omega⟩
    · obtain rfl : k = n := by omega
      go_wp2
      go_ret
      exact ⟨rfl, hbr⟩
end Go.Proofs.YtjhlpkhfdghngaaGreatDoor
