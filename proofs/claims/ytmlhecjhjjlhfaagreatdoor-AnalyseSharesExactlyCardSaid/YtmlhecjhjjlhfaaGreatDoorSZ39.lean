/- Whether ways to vary are right: variant.of, variant.right. -/
import Derived.Test.YtmlhecjhjjlhfaaGreatDoorSZ20
import Derived.Test.YtmlhecjhjjlhfaaGreatDoorSZ34
import Derived.Test.YtmlhecjhjjlhfaaGreatDoorSZ31
import Derived.Test.YtmlhecjhjjlhfaaGreatDoorSZ37
import Derived.Test.YtmlhecjhjjlhfaaGreatDoorSZ32
import Derived.Test.YtmlhecjhjjlhfaaGreatDoorProg
import Derived.WalkKit
import Derived.WalkSpells
import Derived.WalkLawsBesides
import Derived.Below
import Derived.Deep.QuietTactic
import Derived.BigQuiet
import Derived.Lib.QuietBelow
import Derived.Lib.Strings
import Derived.Lib.Hide
import Derived.Deep.RegionWith
import Derived.Deep.RegionHeld3
import Derived.Lib.IndexBytes
import Derived.Test.YtmlhecjhjjlhfaaGreatDoorSZ33
import Derived.Test.YtmlhecjhjjlhfaaGreatDoorSZ1
import Derived.Laws.Rows
import Derived.Laws.Tables
import Derived.Laws.CopyOwn
import Derived.Test.YtmlhecjhjjlhfaaGreatDoorSZ4
import Derived.OwnWalk
import Derived.Maps.AppendAt
import Derived.Test.YtmlhecjhjjlhfaaGreatDoorSZ16
import Derived.Test.YtmlhecjhjjlhfaaGreatDoorSZ25
import Derived.Test.YtmlhecjhjjlhfaaGreatDoorSZ29
import Derived.Test.YtmlhecjhjjlhfaaGreatDoorSZ13
import Derived.Test.YtmlhecjhjjlhfaaGreatDoorSZ24
import Derived.Test.YtmlhecjhjjlhfaaGreatDoorSZ18
import Derived.Test.YtmlhecjhjjlhfaaGreatDoorSZ17
import Derived.Test.YtmlhecjhjjlhfaaGreatDoorSZ36
import Derived.Test.YtmlhecjhjjlhfaaGreatDoorSZ10
import Derived.Test.YtmlhecjhjjlhfaaGreatDoorSZ19
import Derived.Test.YtmlhecjhjjlhfaaGreatDoorSZ38
namespace Go.Proofs.YtmlhecjhjjlhfaaGreatDoor
open Go.RowKit Go.Sort
set_option linter.unusedVariables false
set_option linter.unusedSimpArgs false
set_option maxRecDepth 100000
def ofV (l : List VaryM) (h : ByteArray) : Int := idxA (fun x : VaryM => x.v.header.toList == h.toList) l 0
theorem infVar : (Tryz.prog.info? 83).map (·.size) = some 3 := by kernel_rfl
theorem VaryM.val_eq (x : VaryM) : x.val = .agg #[.string x.v.header, .slice x.A x.v.values.length x.c, .string x.v.dflt] := rfl
theorem of1_any (x : VaryM) (h : ByteArray) (b : Nat) (w : World) (hc : w.cell? ⟨b, 0, none⟩ = some (.string h)) : Calls Tryz.prog 175 #[x.val, .pointer (some ⟨b, 0, none⟩)] w (Ret w (.bool (x.v.header.toList == h.toList))) := by
  have hbx : (w.alloc (.cells #[.string x.v.header, .slice x.A x.v.values.length x.c, .string x.v.dflt] 83)).cell? ⟨b, 0, none⟩ = some (.string h) := cell_keep (balloc (Below.refl _ _) _) hc
  rw [VaryM.val_eq]
  go_enter Tryz.func175, Tryz.ntmps175
  go_wp2_with fail
  go_ret
  exact ⟨rfl, belB⟩
theorem of_any24 (A : Option Addr) (n c : Nat) (L : List VaryM) (h : ByteArray) (w : World) (hL : VarysRead w A n L) (hn : n ≤ 1000000) : Calls Tryz.prog 115 #[.slice A n c, .string h] w (Ret w (.int .i64 (ofV L h))) := by
  have hb0 : ∀ W (hb : Below w.heap.size w W) (b : Nat), W.cell? ⟨b, 0, none⟩ = some (.string h) → Calls Tryz.prog 171 #[.slice A n c, .func (.func 175) #[] #[.pointer (some ⟨b, 0, none⟩)]] W (Ret W (.int .i64 (ofV L h))) := fun W hb b hc =>
    indexFuncVA1_any 175 (enters_of Tryz.func175 (by kernel_rfl) rfl) (.pointer (some ⟨b, 0, none⟩)) (fun x : VaryM => x.v.header.toList == h.toList) A n c L W (fun x hx W' hb' => of1_any x h b W' (cell_keep hb' hc)) (hL.keep hb) (by omega)
  generalize ofV L h = v at *
  have hmf : ∀ (fn : Fn) (first cap : Array Value) (w : World), (Instr.makeFunc fn first cap).run Tryz.prog w = .ok (.func fn first cap) w := fun _ _ _ _ => rfl
  have HC := Lib.hid hb0
  clear hb0 hL
  go_enter Tryz.func115, Tryz.ntmps115
  go_wp2_with (go_at_call 171; refine (HC.out _ belB w.heap.size (by exact ((cell_of_row _ _ 0 _ _ _ (World.alloc_heap_new w _)).trans rfl))).mono ?_; rintro e w3 ⟨rfl, hb3⟩)
  go_ret
  exact ⟨rfl, belB⟩
def valuesA (l : List ByteArray) : Bool := (List.range l.length).all (okK ltB (wordV valueN) l)
theorem okV_at {l : List ByteArray} {k : Nat} {x y : ByteArray} (hx : l[k + 1]? = some x) (hy : l[k]? = some y) : okK ltB (wordV valueN) l (k + 1) = (wordV valueN x && ltB y x) := by
  unfold okK
  rw [hx, Nat.add_sub_cancel, hy]
  simp
theorem okV_zero {l : List ByteArray} {x : ByteArray} (hx : l[0]? = some x) : okK ltB (wordV valueN) l 0 = wordV valueN x := by
  unfold okK
  rw [hx]; simp
theorem valuesA_fail {l : List ByteArray} {k : Nat} (hk : k < l.length) (h2 : okK ltB (wordV valueN) l k = false) : valuesA l = false := by
  unfold valuesA
  rw [List.all_eq_false]
  exact ⟨k, List.mem_range.2 hk, by rw [h2]; decide⟩
def dfltOk (v : VaryV) : Bool := v.dflt.toList.isEmpty || Lib.containsS v.values v.dflt
def rightV (x : VaryM) (earlier : List VaryM) : Int :=
  if wordV nameN x.v.header = false then 1 else if 0 ≤ ofV earlier x.v.header then 6 else if dfltOk x.v = false then 1 else if valuesA x.v.values = false then 1 else 0
set_option maxHeartbeats 8000000 in
theorem right_any (x : VaryM) (A : Option Addr) (n c : Nat) (E : List VaryM) (w : World) (hx : VaryReads w x) (hf : VaryFits x.v) (hL : VarysRead w A n E) (hn : n ≤ 1000000) : Calls Tryz.prog 113 #[x.val, .slice A n c] w (Ret w (.int .i64 (rightV x E))) := by
  obtain ⟨V, hV⟩ : ∃ V, V = rightV x E := ⟨_, rfl⟩
  rw [← hV]
  have cN := fun W => vname_any x.v.header W (by have := hf.h; omega)
  have cO := fun (W : World) (hb : Below w.heap.size w W) => of_any24 A n c E x.v.header W (hL.keep hb) hn
  have cC := fun (W : World) (hb : Below w.heap.size w W) => contains_any x.A x.v.values.length x.c x.v.values x.v.dflt W (VaryReads.keep hx hb) (by have := hf.n; omega)
  have cV := fun (s : ByteArray) (hs : s ∈ x.v.values) (W : World) => vvalue_any s W (by have := hf.x s hs; omega)
  have hbx : ∀ W, Below (w.alloc (.cells #[.string x.v.header, .slice x.A x.v.values.length x.c, .string x.v.dflt] 83)).heap.size (w.alloc (.cells #[.string x.v.header, .slice x.A x.v.values.length x.c, .string x.v.dflt] 83)) W → W.cell? ⟨w.heap.size, 0, none⟩ = some (.string x.v.header) ∧ W.cell? ⟨w.heap.size, 1, none⟩ = some (.slice x.A x.v.values.length x.c) ∧ W.cell? ⟨w.heap.size, 2, none⟩ = some (.string x.v.dflt) := fun W hb => by
    have h : Box1 W w.heap.size 83 #[.string x.v.header, .slice x.A x.v.values.length x.c, .string x.v.dflt] := Box1.keep (World.alloc_heap_new w _) hb
    exact ⟨h.cell rfl, h.cell rfl, h.cell rfl⟩
  have HBX := Lib.hid hbx; have HV := Lib.hid hV; have HO := Lib.hid cO; have HVL := Lib.hid cV
  have HR := Lib.hid hx
  have hnv := hf.n
  rw [VaryM.val_eq]
  unfold rightV at hV
  clear hbx hx hL cO cV hf
  cases hnm : wordV nameN x.v.header
  · rw [hnm] at cN
    have HN := Lib.hid cN
    rw [if_pos hnm] at hV
    subst hV
    clear cN cC hnm
    go_enter Tryz.func113, Tryz.ntmps113
    go_wp2_with (go_at_call 172; refine (HN.out _).mono ?_; rintro e w2 ⟨rfl, hb2⟩)
    go_ret
    exact ⟨rfl, belB⟩
  rw [hnm] at cN
  have HN := Lib.hid cN
  rw [if_neg (by rw [hnm]; decide)] at hV
  clear cN hnm
  by_cases ho : 0 ≤ ofV E x.v.header
  · rw [if_pos ho] at hV
    subst hV
    generalize ofV E x.v.header = ov at *
    clear cC
    go_enter Tryz.func113, Tryz.ntmps113
    go_wp2_with (first | (go_at_call 172; refine (HN.out _).mono ?_; rintro e w2 ⟨rfl, hb2⟩; obtain ⟨y0, y1, y2⟩ := HBX.out w2 hb2) | (go_at_call 115; refine (HO.out _ belB).mono ?_; rintro e w3 ⟨rfl, hb3⟩))
    go_ret
    exact ⟨rfl, belB⟩
  rw [if_neg ho] at hV
  have hov : ofV E x.v.header = -1 := by have := idxA_ge (fun y : VaryM => y.v.header.toList == x.v.header.toList) E 0; unfold ofV at ho ⊢; omega
  rw [hov] at HO
  clear ho hov
  have HC := Lib.hid cC
  clear cC
  obtain ⟨n1, hn1⟩ : ∃ n1, n1 = x.v.values.length := ⟨_, rfl⟩
  have hn1b : n1 ≤ 10 := by rw [hn1]; exact hnv
  have HNL := Lib.hid hn1
  have HV2 := Lib.hid hV
  clear hV hn1
  go_enter Tryz.func113, Tryz.ntmps113
  go_upto_region 5 with (first | (go_at_call 172; refine (HN.out _).mono ?_; rintro e w2 ⟨rfl, hb2⟩; obtain ⟨y0, y1, y2⟩ := HBX.out w2 hb2) | (go_at_call 115; refine (HO.out _ belB).mono ?_; rintro e w3 ⟨rfl, hb3⟩))
  have hbz3 := bstep hb2 hb3
  have hw3 : Below w.heap.size w w3 := belB
  have hs2 := hb2.size
  have hs3 := hb3.size
  clear y0 y1 y2
  obtain ⟨z0, z1, z2⟩ := HBX.out w3 hbz3
  go_cut [18] (fun v wx => v = .bool (!dfltOk x.v) ∧ Below w3.heap.size w3 wx)
  case first =>
    cases he : x.v.dflt.toList.isEmpty
    · cases hcc : Lib.containsS x.v.values x.v.dflt
      all_goals
        rw [hcc] at HC
        go_wp2_with (go_at_call 73; refine (HC.out _ belB).mono ?_; rintro e w4 ⟨rfl, hb4⟩)
        go_meet
        exact ⟨by simp [dfltOk, he, hcc], hb4⟩
    · go_wp2_with fail
      go_meet
      exact ⟨by simp [dfltOk, he], Below.refl _ _⟩
  case rest =>
    obtain ⟨rfl, hbc⟩ := hcut
    clear z0 z1 z2
    have hwc : Below w.heap.size w wc := hw3.trans (hbc.mono (by have := hw3.size; omega))
    have hbzc := bstep hbz3 hbc
    obtain ⟨z0, z1, z2⟩ := HBX.out wc hbzc
    cases hd : dfltOk x.v
    · have hV := HV2.out
      rw [if_pos hd] at hV
      subst hV
      clear HV2 HV hd
      go_wp2_with fail
      go_ret
      exact ⟨rfl, hwc⟩
    have hV := HV2.out
    rw [if_neg (by rw [hd]; decide)] at hV
    have HV := Lib.hid hV
    clear hV HV2 hd
    rw [← HNL.out] at z1
    simp only [Bool.not_true]
    go_wp2_with fail
    clear z0 z1 z2
    have hz0 : w.heap.size < wc.heap.size := by have := hbzc.size; simp at this; omega
    go_loopw [33] (fun iv wr => ∃ k : Nat, k ≤ n1 ∧ iv = .int .i64 k ∧ Hid ((List.range k).all (okK ltB (wordV valueN) x.v.values) = true) ∧ Below wc.heap.size wc wr) (fun iv _ => n1 - (intOf iv).toNat)
    case atStart => exact ⟨0, by omega, rfl, Lib.hid rfl, Below.refl _ _⟩
    case round =>
      obtain ⟨k, hk, rfl, HK, hb⟩ := hrel
      have hbr : Below w.heap.size w wr := hwc.trans (hb.mono (by omega))
      by_cases hlt : k < n1
      · obtain ⟨u, hu⟩ : ∃ u, x.v.values[k]? = some u := ⟨_, List.getElem?_eq_getElem (by have := HNL.out; omega)⟩
        obtain ⟨z0, z1, z2⟩ := HBX.out wr (bstep hbzc hb)
        rw [← HNL.out] at z1
        obtain ⟨pb, po, hTA, hcell⟩ := (VaryReads.keep HR.out hbr).2 (by have := HNL.out; omega)
        rw [hTA] at z1 ⊢
        have hc1 : wr.cell? ⟨pb, po + k, none⟩ = some (.string u) := hcell k _ (by simp [hu])
        have hNu := HVL.out u (List.mem_of_getElem? hu)
        have hk0 : (0 : Int) ≤ (k : Int) := by omega
        have hk1 : (k : Int) < (n1 : Int) := by omega
        cases hnu : wordV valueN u
        · obtain rfl : V = 1 := by
            rw [HV.out, if_pos (valuesA_fail (k := k) (by have := HNL.out; omega) (by simp [okK, hu, hnu]))]
          rw [hnu] at hNu
          have HNU := Lib.hid hNu
          clear HK hcell hu hNu hTA hnu
          go_wp2_with (go_at_call 173; refine (HNU.out _).mono ?_; rintro e w2 ⟨rfl, hb2⟩)
          go_ret
          exact ⟨rfl, bstep hbr hb2⟩
        · rw [hnu] at hNu
          have HNU := Lib.hid hNu
          rcases Nat.eq_zero_or_pos k with h0 | hpos
          · subst h0
            have HK2 : Hid ((List.range (0 + 1)).all (okK ltB (wordV valueN) x.v.values) = true) := Lib.hid (okK_upto HK.out (by rw [okV_zero hu, hnu]))
            simp only [Nat.add_zero] at hc1
            clear HK hcell hu hNu hTA hnu
            go_wp2_with (go_at_call 173; refine (HNU.out _).mono ?_; rintro e w2 ⟨rfl, hb2⟩)
            exact ⟨⟨1, by omega, rfl, HK2, bstep hb hb2⟩, by simp [intOf]; omega⟩
          · obtain ⟨j, rfl⟩ : ∃ j, k = j + 1 := ⟨k - 1, by omega⟩
            obtain ⟨y, hy⟩ : ∃ y, x.v.values[j]? = some y := ⟨_, List.getElem?_eq_getElem (by have := HNL.out; omega)⟩
            have hc2 : wr.cell? ⟨pb, po + j, none⟩ = some (.string y) := hcell j _ (by simp [hy])
            have hk2 : (0 : Int) ≤ (j : Int) := by omega
            have hk3 : (j : Int) < (n1 : Int) := by omega
            have hk4 : ((j : Int) + 1 - 1) = j := by omega
            have hle := le_prev2 u y
            have hat := okV_at hu hy
            rw [hnu, Bool.true_and] at hat
            cases ht : ltB y u
            · obtain rfl : V = 1 := by
                rw [HV.out, if_pos (valuesA_fail (k := j + 1) (by have := HNL.out; omega) (by rw [hat, ht]))]
              rw [ht] at hle
              clear HK hcell hu hy hat ht hNu hTA hnu
              go_wp2_with (go_at_call 173; refine (HNU.out _).mono ?_; rintro e w2 ⟨rfl, hb2⟩; have hc2' := cell_keep hb2 hc2; have z1' := cell_keep hb2 z1)
              go_ret
              exact ⟨rfl, bstep hbr hb2⟩
            · have HK2 : Hid ((List.range (j + 1 + 1)).all (okK ltB (wordV valueN) x.v.values) = true) := Lib.hid (okK_upto HK.out (by rw [hat, ht]))
              rw [ht] at hle
              clear HK hcell hu hy hat ht hNu hTA hnu
              go_wp2_with (go_at_call 173; refine (HNU.out _).mono ?_; rintro e w2 ⟨rfl, hb2⟩; have hc2' := cell_keep hb2 hc2; have z1' := cell_keep hb2 z1)
              exact ⟨⟨j + 1 + 1, by omega, by go_num, HK2, bstep hb hb2⟩, by simp [intOf]; omega⟩
      · have hV2 : V = 0 := by
          have hall : valuesA x.v.values = true := by
            unfold valuesA
            have := HK.out
            rw [show k = x.v.values.length by have := HNL.out; omega] at this
            exact this
          rw [HV.out, if_neg (by rw [hall]; decide)]
        subst hV2
        clear HK
        go_wp2_with fail
        go_ret
        exact ⟨rfl, hbr⟩
end Go.Proofs.YtmlhecjhjjlhfaaGreatDoor
namespace Go.Proofs.YtmlhecjhjjlhfaaGreatDoor
open Go.RowKit Go.Sort
set_option linter.unusedVariables false
set_option linter.unusedSimpArgs false
set_option maxRecDepth 100000
structure RuS (g : Nat) (X : Array Value) (w0 : World) (W : World) : Prop where
  x : Box1 W g 38 X
  b : Below w0.heap.size w0 W
theorem RuS.keep {g : Nat} {X : Array Value} {w0 W W' : World} (h : RuS g X w0 W) (hb : Below W.heap.size W W') : RuS g X w0 W' := ⟨h.x.keep hb, bstep h.b hb⟩
end Go.Proofs.YtmlhecjhjjlhfaaGreatDoor
namespace Go.Proofs.YtmlhecjhjjlhfaaGreatDoor
open Go.RowKit Go.Sort
set_option linter.unusedVariables false
set_option linter.unusedSimpArgs false
set_option maxRecDepth 100000
theorem chk1_any (x : VaryM) (w : World) (hn : x.v.values.length ≤ 1000000) : Calls Tryz.prog 112 #[x.val] w (Ret w (.bool (decide (16 < x.v.values.length)))) := by
  rw [VaryM.val_eq]
  generalize hm : x.v.values.length = m at *
  by_cases h : 16 < m
  all_goals
    go_enter Tryz.func112, Tryz.ntmps112
    go_wp2_with fail
    go_ret
    exact ⟨ret_bool (by simp [h]; omega), belB⟩
theorem VarysRead.take {w : World} {A : Option Addr} {n k : Nat} {L : List VaryM} (h : VarysRead w A n L) (hk : k ≤ n) : VarysRead w A k (L.take k) := by
  have hl := h.len
  refine ⟨by rw [List.length_take]; omega, ?_, fun x hx => h.each x (List.mem_of_mem_take hx)⟩
  refine ⟨by rw [flat_len VaryM.cells _ (fun a _ => a.cells_len), List.length_take]; rw [Nat.min_eq_left (by omega)], fun h0 => ?_⟩
  obtain ⟨b, o, e, hc⟩ := h.rows.2 (by omega)
  refine ⟨b, o, e, fun j u hu => hc j u ?_⟩
  have hs : L.flatMap VaryM.cells = (L.take k).flatMap VaryM.cells ++ (L.drop k).flatMap VaryM.cells := by rw [← List.flatMap_append, List.take_append_drop]
  rw [hs, List.getElem?_append_left (List.getElem?_eq_some_iff.1 hu).1]
  exact hu
def checkVF : List VaryM → List VaryM → Int
  | [], _ => 0
  | x :: r, e => if rightV x e = 0 then checkVF r (e ++ [x]) else rightV x e
def checkV (L : List VaryM) : Int := if 8 < L.length then 2 else if (L.any fun x => decide (16 < x.v.values.length)) = true then 2 else checkVF L []
structure VuS (g : Nat) (X : Array Value) (w0 : World) (W : World) : Prop where
  x : Box1 W g 83 X
  b : Below w0.heap.size w0 W
theorem VuS.keep {g : Nat} {X : Array Value} {w0 W W' : World} (h : VuS g X w0 W) (hb : Below W.heap.size W W') : VuS g X w0 W' := ⟨h.x.keep hb, bstep h.b hb⟩
theorem Box1.vary {W : World} {g : Nat} {X : Array Value} (h : Box1 W g 83 X) (hs : X.size = 3) : (loadVar 83 ⟨g, 0, none⟩).run Tryz.prog W = .ok (.agg X) W :=
  run_loadVar_row (P := Tryz.prog) W g _ 83 X _ _ h Tryz.underlying83 rfl (by rw [hs]; exact infVar)
set_option maxHeartbeats 8000000 in
theorem vcheck_any (A : Option Addr) (n c : Nat) (L : List VaryM) (w : World) (hL : VarysRead w A n L) (hf : ∀ x ∈ L, VaryFits x.v) (hn : n ≤ 10) (hc : n ≤ c) : Calls Tryz.prog 56 #[.slice A n c] w (Ret w (.int .i64 (checkV L))) := by
  have hl : L.length = n := hL.len
  have cA := fun (W : World) (hb : Below w.heap.size w W) => containsFuncVA0_any 112 (enters_of Tryz.func112 (by kernel_rfl) rfl) (fun x : VaryM => decide (16 < x.v.values.length)) A n c L W (fun x hx W' hb' => chk1_any x W' (by have := (hf x hx).n; omega)) (hL.keep hb) (by omega)
  have cR := fun (x : VaryM) (k : Nat) (hx : L[k]? = some x) (W : World) (hb : Below w.heap.size w W) => right_any x A k c (L.take k) W ((hL.each x (List.mem_of_getElem? hx)).keep hb) (hf x (List.mem_of_getElem? hx)) ((hL.keep hb).take (by have := (List.getElem?_eq_some_iff.1 hx).1; omega)) (by have := (List.getElem?_eq_some_iff.1 hx).1; omega)
  obtain ⟨V, hV⟩ : ∃ V, V = checkV L := ⟨_, rfl⟩
  rw [← hV]
  unfold checkV at hV
  have HL := Lib.hid hL; have HA := Lib.hid cA; have HRI := Lib.hid cR; have HLN := Lib.hid hl
  clear hL cA cR hf
  by_cases h8 : 8 < n
  · rw [if_pos (by omega)] at hV
    subst hV
    have d8 : decide ((8 : Int) < (n : Int)) = true := decide_eq_true (by omega)
    clear hl
    go_enter Tryz.func56, Tryz.ntmps56
    go_wp2_with fail
    go_ret
    exact ⟨rfl, belB⟩
  rw [if_neg (by omega)] at hV
  have d8 : decide ((8 : Int) < (n : Int)) = false := decide_eq_false (by omega)
  cases h16 : (L.any fun x => decide (16 < x.v.values.length))
  rotate_left
  · rw [if_pos h16] at hV
    subst hV
    rw [h16] at HA
    clear hl h16
    go_enter Tryz.func56, Tryz.ntmps56
    go_wp2_with (go_at_call 111; refine (HA.out _ (Below.refl _ _)).mono ?_; rintro e w2 ⟨rfl, hb2⟩)
    go_ret
    exact ⟨rfl, hb2⟩
  rw [if_neg (by rw [h16]; decide)] at hV
  rw [h16] at HA
  have HV := Lib.hid hV
  clear hl h16 hV
  go_enter Tryz.func56, Tryz.ntmps56
  go_wp2_with (go_at_call 111; refine (HA.out _ (Below.refl _ _)).mono ?_; rintro e w2 ⟨rfl, hb2⟩)
  go_loopw [15] (fun iv wr => ∃ k : Nat, k ≤ n ∧ iv = .int .i64 k ∧ Hid (V = checkVF (L.drop k) (L.take k)) ∧ Below w.heap.size w wr) (fun iv _ => n - (intOf iv).toNat)
  case atStart => exact ⟨0, by omega, rfl, Lib.hid (by rw [HV.out]; rfl), hb2⟩
  case round =>
    obtain ⟨k, hk, rfl, HI, hbr⟩ := hrel
    clear hb2
    by_cases hlt : k < n
    · obtain ⟨x, hx⟩ : ∃ x, L[k]? = some x := ⟨_, List.getElem?_eq_getElem (by have := HLN.out; omega)⟩
      have hright := HRI.out x k hx
      obtain ⟨_, b, o, rfl, hcell⟩ := (HL.out.keep hbr).at_ hx
      have hld := varyA_load wr b (o + k * 3) x hcell
      have hd : L.drop k = x :: L.drop (k + 1) := by
        obtain ⟨hl2, rfl⟩ := List.getElem?_eq_some_iff.1 hx
        exact List.drop_eq_getElem_cons hl2
      have htk : L.take k ++ [x] = L.take (k + 1) := by rw [List.take_add_one, hx]; rfl
      have hVA := HI.out
      rw [hd, checkVF, htk] at hVA
      have hone : x.cells.toArray.all (·.oneCell') = true := by rw [List.all_toArray]; rfl
      have hsz2 : x.cells.toArray.size = 3 := by rw [List.size_toArray, x.cells_len]
      have hi3 : (Tryz.prog.info? 83).map (·.size) = some x.cells.toArray.size := by rw [hsz2]; exact infVar
      have hsz : x.cells.toArray.size = (#[.string ⟨#[]⟩, .slice none 0 0, .string ⟨#[]⟩] : Array Value).size := by rw [hsz2]; rfl
      unfold VaryM.val at hld hright
      generalize x.cells.toArray = X at *
      generalize rightV x (L.take k) = rv at *
      have HLD := Lib.hid hld; have HRX := Lib.hid hright; have HON := Lib.hid hone; have HXS := Lib.hid hsz2; have HI3 := Lib.hid hi3; have HSZ := Lib.hid hsz; have HVA := Lib.hid hVA
      clear hld hright hone hsz2 hi3 hsz hcell hx hd htk hVA HI
      have hk0 : (0 : Int) ≤ (k : Int) := by omega
      have hk1 : (k : Int) < (n : Int) := by omega
      have hk2 : (k : Int) ≤ (c : Int) := by omega
      go_upto_region 6 with (first | (refine wpList_load_addr rfl 83 _ rfl ⟨b, o + k * 3, none⟩ (.agg X) rfl HLD.out ?_) | (refine wpList_store_row rfl 83 _ _ rfl wr.heap.size X rfl rfl _ #[.string ⟨#[]⟩, .slice none 0 0, .string ⟨#[]⟩] ((heap_alloc_new wr _).trans rfl) HI3.out HSZ.out.symm HON.out ?_; generalize hw6 : World.setRow _ _ _ = w6; have B6 : Box1 w6 wr.heap.size 83 X := (by rw [← hw6]; exact setRow_heap _ _ _ _ _ _ (heap_alloc_new wr _)); have hb6 : Below wr.heap.size wr w6 := (by rw [← hw6]; exact below_setRow ((Below.refl _ _).alloc (Nat.le_refl _) _) (Nat.le_refl _) _); clear hw6))
      have HB := Lib.hid (VuS.mk (w0 := wr) B6 hb6)
      clear B6 hb6
      refine wp_det 5 (by kernel_rfl) (by kernel_rfl) (by kernel_rfl) (fun i => [.agg X, .slice (some ⟨b, o, none⟩) n c, .int .i64 k, .slice (some ⟨b, o, none⟩) k c, .int .i64 rv].getD i undef) (VuS wr.heap.size X wr) (HB.out.keep (Below.drew (Below.refl _ _))) (fun _ _ h hb => h.keep hb) ?_ ?_
      · simp only [putL, List.take_succ_cons, List.take_zero, List.drop_succ_cons, List.drop_zero, Act.put, List.setIfInBounds_toArray, List.set_cons_succ, List.set_cons_zero, List.getD_cons_zero, List.getD_cons_succ]
        refine ⟨fun W hS => ?_, fun W hS => ?_, fun W hS => ?_, fun W hS => ?_, fun W hS => ?_, trivial⟩
        all_goals
          go_wp2_with (first | (refine wpList_load_addr rfl 83 _ rfl ⟨wr.heap.size, 0, none⟩ (.agg X) rfl (hS.x.vary HXS.out) ?_) | (go_at_call 113; refine (HRX.out _ (bstep hbr hS.b)).mono ?_; rintro e w2 ⟨rfl, hb2⟩))
          exact ⟨rfl, rfl, belB⟩
      intro w9 hS9
      have hb9 := bstep hbr hS9.b
      by_cases h0 : rv = 0
      · subst h0
        have hV2 := HVA.out
        rw [if_pos rfl] at hV2
        have HV2 := Lib.hid hV2
        clear hV2 HVA
        simp only [putL, List.take_succ_cons, List.take_zero, List.drop_succ_cons, List.drop_zero, Act.put, List.setIfInBounds_toArray, List.set_cons_succ, List.set_cons_zero, List.getD_cons_zero, List.getD_cons_succ]
        go_wp2
        exact ⟨⟨k + 1, by omega, by go_num, HV2, hb9⟩, by simp [intOf]; omega⟩
      · have hV2 := HVA.out
        rw [if_neg h0] at hV2
        subst hV2
        have e1 : (V == 0) = false := beq_eq_false_iff_ne.2 h0
        have e2 : (V != 0) = true := bne_iff_ne.2 h0
        clear HVA
        simp only [putL, List.take_succ_cons, List.take_zero, List.drop_succ_cons, List.drop_zero, Act.put, List.setIfInBounds_toArray, List.set_cons_succ, List.set_cons_zero, List.getD_cons_zero, List.getD_cons_succ]
        go_wp2
        go_ret
        exact ⟨rfl, hb9⟩
    · obtain rfl : V = 0 := by
        rw [HI.out, List.drop_eq_nil_of_le (by have := HLN.out; omega)]; rfl
      clear HI
      go_wp2_with fail
      go_ret
      exact ⟨rfl, hbr⟩
end Go.Proofs.YtmlhecjhjjlhfaaGreatDoor
namespace Go.Proofs.YtmlhecjhjjlhfaaGreatDoor
open Go.RowKit Go.Sort
set_option linter.unusedVariables false
set_option linter.unusedSimpArgs false
set_option maxRecDepth 100000
def ruleOkB (x : RuleM) : Bool := validR x.r && decide (checkV x.L = 0)
def validL (L : List RuleM) : Bool := decide (L.length ≤ 64) && L.all ruleOkB
theorem fits_at {x : RuleM} {w : World} (hR : RuleReads w x) (hf : RuleFits x.r) : ∀ y ∈ x.L, VaryFits y.v := fun y hy => hf.v y.v (by rw [← hR.same]; exact List.mem_map.2 ⟨y, hy, rfl⟩)
set_option maxHeartbeats 4000000 in
theorem isValid1_any (x : RuleM) (w : World) (hR : RuleReads w x) (hf : RuleFits x.r) (hc : RuleCaps x) (hE : Env w) : Calls Tryz.prog 54 #[x.val] w (Ret w (.bool (!ruleOkB x))) := by
  have cV := fun (W : World) (hb : Below w.heap.size w W) => polValid_any x W (hR.keep hb) hf (hE.keep hb)
  have cK := fun (W : World) (hb : Below w.heap.size w W) => vcheck_any x.V x.r.vary.length x.cv x.L W ((hR.keep hb).varys) (fits_at hR hf) hf.nv hc.w
  unfold ruleOkB
  generalize validR x.r = b1 at *
  generalize checkV x.L = e1 at *
  have hc7 : x.cells.toArray[7]? = some (.slice x.V x.r.vary.length x.cv) := rfl
  have hsz2 : x.cells.toArray.size = 18 := by rw [List.size_toArray, x.cells_len]
  unfold RuleM.val at cV ⊢
  generalize x.cells.toArray = X at *
  have HV := Lib.hid cV; have HK := Lib.hid cK; have HC7 := Lib.hid hc7; have HXS := Lib.hid hsz2
  clear cV cK hc7 hsz2 hR hf hc hE
  cases b1
  · rw [Bool.false_and]
    go_enter Tryz.func54, Tryz.ntmps54
    go_upto_region 1 with fail
    generalize hw0 : World.alloc _ _ = w0
    have hB : Box1 w0 w.heap.size 38 X := by rw [← hw0]; exact heap_alloc_new w _
    have hbw : Below w.heap.size w w0 := by rw [← hw0]; exact balloc (Below.refl _ _) _
    clear hw0
    go_wp2_with (first | (refine wpList_load_addr rfl 38 _ rfl ⟨w.heap.size, 0, none⟩ (.agg X) rfl (hB.rule HXS.out) ?_) | (go_at_call 55; refine (HV.out _ hbw).mono ?_; (rintro e w' ⟨rfl, hb'⟩; replace hB := hB.keep hb'; replace hbw := bstep hbw hb'; clear hb'; have y7 := hB.cell HC7.out)))
    go_ret
    exact ⟨rfl, hbw⟩
  · rw [Bool.true_and]
    have he1 : (e1 != 0) = !decide (e1 = 0) := by
      by_cases h : e1 = 0
      · subst h; rfl
      · rw [decide_eq_false h]; exact bne_iff_ne.2 h
    go_enter Tryz.func54, Tryz.ntmps54
    go_upto_region 1 with fail
    generalize hw0 : World.alloc _ _ = w0
    have hB : Box1 w0 w.heap.size 38 X := by rw [← hw0]; exact heap_alloc_new w _
    have hbw : Below w.heap.size w w0 := by rw [← hw0]; exact balloc (Below.refl _ _) _
    clear hw0
    go_wp2_with (first | (refine wpList_load_addr rfl 38 _ rfl ⟨w.heap.size, 0, none⟩ (.agg X) rfl (hB.rule HXS.out) ?_) | (go_at_call 55; refine (HV.out _ hbw).mono ?_; (rintro e w' ⟨rfl, hb'⟩; replace hB := hB.keep hb'; replace hbw := bstep hbw hb'; clear hb'; have y7 := hB.cell HC7.out)) | (go_at_call 56; refine (HK.out _ hbw).mono ?_; (rintro e w' ⟨rfl, hb'⟩; replace hB := hB.keep hb'; replace hbw := bstep hbw hb'; clear hb'; have y7 := hB.cell HC7.out)))
    go_ret
    exact ⟨rfl, hbw⟩
set_option maxHeartbeats 4000000 in
theorem isValid_any (A : Option Addr) (n c : Nat) (L : List RuleM) (w : World) (hL : RulesRead w A n L) (hf : ∀ x ∈ L, RuleFits x.r) (hc : ∀ x ∈ L, RuleCaps x) (hn : n ≤ 1000000) (hE : Env w) : Calls Tryz.prog 25 #[.slice A n c] w (Ret w (.bool (validL L))) := by
  have hl : L.length = n := hL.len
  have cA := fun (W : World) (hb : Below w.heap.size w W) => containsFuncRU0_any 54 (enters_of Tryz.func54 (by kernel_rfl) rfl) (fun x : RuleM => !ruleOkB x) A n c L W (fun x hx W' hb' => isValid1_any x W' ((hL.each x hx).keep (bstep hb hb')) (hf x hx) (hc x hx) (hE.keep (bstep hb hb'))) (hL.keep hb) (by omega)
  have hany : (L.any fun x => !ruleOkB x) = !(L.all ruleOkB) := by rw [List.all_eq_not_any_not]; simp
  rw [hany] at cA
  unfold validL
  generalize L.all ruleOkB = b at *
  have HA := Lib.hid cA
  clear cA hany hL hf hc hE
  by_cases h64 : n ≤ 64
  · have d := decide_eq_true (p := (n : Int) ≤ 64) (by omega)
    rw [decide_eq_true (by omega), Bool.true_and]
    clear hl
    go_enter Tryz.func25, Tryz.ntmps25
    go_wp2_with (go_at_call 53; refine (HA.out _ (Below.refl _ _)).mono ?_; rintro e w2 ⟨rfl, hb2⟩)
    go_ret
    exact ⟨ret_bool (by simp), hb2⟩
  · have d := decide_eq_false (p := (n : Int) ≤ 64) (by omega)
    rw [decide_eq_false (by omega), Bool.false_and]
    clear hl
    go_enter Tryz.func25, Tryz.ntmps25
    go_wp2_with fail
    go_ret
    exact ⟨rfl, belB⟩
end Go.Proofs.YtmlhecjhjjlhfaaGreatDoor
namespace Go.Proofs.YtmlhecjhjjlhfaaGreatDoor
open Go.RowKit Go.Sort
set_option linter.unusedVariables false
set_option linter.unusedSimpArgs false
set_option maxRecDepth 100000
theorem cellsHd : Tryz.prog.cellsOf 134 = 2 := by kernel_rfl
section
variable {H : Type} {enc : TypeId × Value → H} {W : World} {base : Nat} {sp : Nat → Bool} {hd : Bool}
theorem hdr_row {fuel : Nat} {cs : List Value} {x : DataW H × List MemPlace} (hl : cs.length = 2) (h : DataW.trod enc Tryz.prog W base sp hd fuel 134 cs = some x) : ∃ y : Hdr, cs = y.cells ∧ True := by
  obtain ⟨ys, n', hn', hy, hlen, hyl, hg⟩ := DataW.trod_struct Tryz.underlying134 h
  match cs, hl with
  | [c0, c1], _ =>
    have hyl2 : ys.length = 2 := hyl
    have h0 : DataW.trod enc Tryz.prog W base sp hd n' 9 [c0] = ys[0]? := hg 0 _ rfl
    have h1 : DataW.trod enc Tryz.prog W base sp hd n' 9 [c1] = ys[1]? := hg 1 _ rfl
    rw [List.getElem?_eq_getElem (by omega)] at h0 h1
    obtain ⟨a, e0, _⟩ := DataW.trod_string Tryz.underlying9 h0
    obtain ⟨b, e1, _⟩ := DataW.trod_string Tryz.underlying9 h1
    injection e0 with e0
    injection e1 with e1
    subst e0; subst e1
    exact ⟨⟨a, b⟩, rfl, trivial⟩
theorem open_hdrs {r : Reach} {b0 : Nat} {v : Value} {d : DataW H} {ps : List MemPlace} (hval : Value.okWide Tryz.prog W r b0 23 v) (h : DataW.Trod enc Tryz.prog W base sp hd 23 v d ps) :
    ∃ (A : Option Addr) (n c : Nat) (L : List Hdr), v = .slice A n c ∧ HdrsRead W A n L ∧ n ≤ 9223372036854775807 := by
  obtain ⟨fuel, hf⟩ := h
  obtain ⟨A, n, c, rfl⟩ := Go.WideShapes.okWide_slice Tryz.underlying23 hval
  have hf2 : DataW.trod enc Tryz.prog W base sp hd fuel 23 [.slice A n c] = some (d, ps) := by simpa [Value.cells] using hf
  obtain ⟨A', n', c', L, he, hl, hr, _⟩ := rows_reads (v := .slice A n c) (by decide) Tryz.underlying23 cellsHd Hdr.cells (fun _ => True) (fun a => a.cells_len) (fun f cs x hl h => hdr_row hl h) hf2
  injection he with e1 e2 e3
  subst e1; subst e2; subst e3
  exact ⟨A, n, c, L, rfl, ⟨hl, hr⟩, slice_bound Tryz.underlying23 hf2⟩
end
end Go.Proofs.YtmlhecjhjjlhfaaGreatDoor
