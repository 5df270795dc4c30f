/- The specification's Get, Size, From, Delete. -/
import Derived.Test.YtokfclikhfpmhaaGreatDoorIZ17
import Derived.Test.YtokfclikhfpmhaaGreatDoorIZ5
import Derived.OwnWalk
import Derived.Test.YtokfclikhfpmhaaGreatDoorProg
import Derived.WalkKit
import Derived.WalkSpells
import Derived.WalkLawsBesides
import Derived.Below
import Derived.Deep.QuietTactic
import Derived.BigQuiet
import Derived.Lib.QuietBelow
import Derived.Lib.Strings
import Derived.Lib.Hide
import Derived.Deep.RegionWith
import Derived.Deep.RegionHeld3
import Derived.Lib.IndexBytes
import Derived.Test.YtokfclikhfpmhaaGreatDoorIZ9
namespace Go.Proofs.YtokfclikhfpmhaaGreatDoor
open Go.RowKit Go.Sort
set_option linter.unusedVariables false
set_option linter.unusedSimpArgs false
set_option maxRecDepth 100000
theorem infoItem : (Tryz.prog.info? 41).map (fun i => (i.zero, i.size, i.bytes)) = some (some (.agg #[.string ⟨#[]⟩, .string ⟨#[]⟩, .int .i64 0, .int .i64 0]), 4, 48) := by kernel_rfl
def getV : Option It → Value
  | some x => .tuple #[.agg #[.string x.k, .string x.t, .int .i64 x.z, .int .i64 x.r], .bool true]
  | none => .tuple #[.agg #[.string ⟨#[]⟩, .string ⟨#[]⟩, .int .i64 0, .int .i64 0], .bool false]
theorem ItsRead.cells {w : World} {A : Option Addr} {n k : Nat} {L : List It} {x : It} (h : ItsRead w A n L) (hk : L[k]? = some x) :
    ∃ b o, A = some ⟨b, o, none⟩ ∧ w.cell? ⟨b, o + k * 4, none⟩ = some (.string x.k) ∧ w.cell? ⟨b, o + k * 4 + 1, none⟩ = some (.string x.t) ∧ w.cell? ⟨b, o + k * 4 + 2, none⟩ = some (.int .i64 x.z) ∧ w.cell? ⟨b, o + k * 4 + 3, none⟩ = some (.int .i64 x.r) := by
  obtain ⟨b, o, e, hc⟩ := h.at_ hk
  exact ⟨b, o, e, hc 0 _ rfl, hc 1 _ rfl, hc 2 _ rfl, hc 3 _ rfl⟩
theorem ItsRead.cells_at {w : World} {b o n k : Nat} {L : List It} {x : It} (h : ItsRead w (some ⟨b, o, none⟩) n L) (hk : L[k]? = some x) :
    w.cell? ⟨b, o + k * 4, none⟩ = some (.string x.k) ∧ w.cell? ⟨b, o + k * 4 + 1, none⟩ = some (.string x.t) ∧ w.cell? ⟨b, o + k * 4 + 2, none⟩ = some (.int .i64 x.z) ∧ w.cell? ⟨b, o + k * 4 + 3, none⟩ = some (.int .i64 x.r) := by
  obtain ⟨b', o', e, h0, h1, h2, h3⟩ := h.cells hk
  injection e with e
  injection e with e1 e2 _
  subst e1; subst e2
  exact ⟨h0, h1, h2, h3⟩
theorem drop_at {L : List It} {k : Nat} {x : It} (hx : L[k]? = some x) : L.drop k = x :: L.drop (k + 1) := by
  obtain ⟨hl2, rfl⟩ := List.getElem?_eq_some_iff.1 hx
  exact List.drop_eq_getElem_cons hl2
theorem take_at {L : List It} {k : Nat} {x : It} (hx : L[k]? = some x) : L.take (k + 1) = L.take k ++ [x] := by rw [List.take_add_one, hx]; rfl
set_option maxHeartbeats 2000000 in
theorem rGet15_any (A : Option Addr) (n c : Nat) (L : List It) (key : ByteArray) (w : World) (hA : ItsRead w A n L) (hn : n ≤ 1000000) :
    Calls Tryz.prog 28 #[.slice A n c, .string key] w (Ret w (getV (ixGet L key))) := by
  have hl : n ≤ L.length ∧ L.length ≤ n := by have := hA.len; omega
  have HA := Lib.hid hA
  clear hA
  go_enter Tryz.func28, Tryz.ntmps28
  go_wp2
  go_loopw [6] (fun i wr => ∃ k : Nat, k ≤ n ∧ i = .int .i64 k ∧ Hid (ixGet L key = ixGet (L.drop k) key) ∧ RowV wr w.heap.size 41 [.string ⟨#[]⟩, .string ⟨#[]⟩, .int .i64 0, .int .i64 0] ∧ Below w.heap.size w wr) (fun i _ => n - (intOf i).toNat)
  case atStart => exact ⟨0, by omega, rfl, Lib.hid rfl, RowV.new w _ [.string ⟨#[]⟩, .string ⟨#[]⟩, .int .i64 0, .int .i64 0], belB⟩
  case round =>
    obtain ⟨k, hk, rfl, HI, hR, hb⟩ := hrel
    have r0 := hR.cell (k := 0) rfl
    have r1 := hR.cell (k := 1) rfl
    have r2 := hR.cell (k := 2) rfl
    have r3 := hR.cell (k := 3) rfl
    have f0 := hR.free 0
    have f1 := hR.free 1
    have f2 := hR.free 2
    have f3 := hR.free 3
    have hz := hR.lt
    by_cases hlt : k < n
    · obtain ⟨x, hx⟩ : ∃ x, L[k]? = some x := ⟨_, List.getElem?_eq_getElem (by omega)⟩
      obtain ⟨b, o, rfl, c0, c1, c2, c3⟩ := (HA.out.keep hb).cells hx
      have hk0 : (0 : Int) ≤ (k : Int) := by omega
      have hk1 : (k : Int) < (n : Int) := by omega
      have HI2 := HI.out
      rw [drop_at hx] at HI2
      by_cases he : x.k = key
      · have hv : ixGet L key = some x := by rw [HI2]; simp [ixGet, he]
        have HV := Lib.hid hv
        have hq : (x.k.toList == key.toList) = true := by rw [he]; simp
        clear hx HI HI2 hv he
        go_wp2
        have hS := (((hR.set_ 0 (.string x.k)).set_ 1 (.string x.t)).set_ 2 (.int .i64 x.z)).set_ 3 (.int .i64 x.r)
        have hb4 : Below w.heap.size w ((((wr.setCell ⟨w.heap.size, 0, none⟩ (.string x.k)).setCell ⟨w.heap.size, 1, none⟩ (.string x.t)).setCell ⟨w.heap.size, 2, none⟩ (.int .i64 x.z)).setCell ⟨w.heap.size, 3, none⟩ (.int .i64 x.r)) := belB
        generalize hw4 : World.setCell _ _ _ = w4 at *
        have q0 := hS.cell (k := 0) rfl
        have q1 := hS.cell (k := 1) rfl
        have q2 := hS.cell (k := 2) rfl
        have q3 := hS.cell (k := 3) rfl
        exact bodyPost_ret (v := getV (some x)) (by simp [results, Tryz.results28, go_sem, q0, q1, q2, q3, getV]) rfl ⟨by rw [HV.out], hb4⟩
      · have hv : ixGet L key = ixGet (L.drop (k + 1)) key := by rw [HI2]; simp [ixGet, he]
        have HV := Lib.hid hv
        have hq : (x.k.toList == key.toList) = false := by rw [beq_dec]; simpa using he
        clear hx HI HI2 hv he r0 r1 r2 r3 f0 f1 f2 f3
        go_wp2
        exact ⟨⟨k + 1, by omega, by go_num, HV, hR, belB⟩, by simp [intOf]; omega⟩
    · obtain rfl : k = n := by omega
      have hv : ixGet L key = none := by rw [HI.out, List.drop_of_length_le (by omega)]; rfl
      have HV := Lib.hid hv
      clear HI hv
      go_wp2
      have hS := (((hR.set_ 0 (.string ⟨#[]⟩)).set_ 1 (.string ⟨#[]⟩)).set_ 2 (.int .i64 0)).set_ 3 (.int .i64 0)
      have hb4 : Below w.heap.size w ((((wr.setCell ⟨w.heap.size, 0, none⟩ (.string ⟨#[]⟩)).setCell ⟨w.heap.size, 1, none⟩ (.string ⟨#[]⟩)).setCell ⟨w.heap.size, 2, none⟩ (.int .i64 0)).setCell ⟨w.heap.size, 3, none⟩ (.int .i64 0)) := belB
      generalize hw4 : World.setCell _ _ _ = w4 at *
      have q0 := hS.cell (k := 0) rfl
      have q1 := hS.cell (k := 1) rfl
      have q2 := hS.cell (k := 2) rfl
      have q3 := hS.cell (k := 3) rfl
      exact bodyPost_ret (v := getV none) (by simp [results, Tryz.results28, go_sem, q0, q1, q2, q3, getV]) rfl ⟨by rw [HV.out], hb4⟩
def ItsPost (L : List It) (w : World) (e : Ending) (w' : World) : Prop := ∃ A c, e = .returned (.slice A L.length c) ∧ ItsRead w' A L.length L ∧ Below w.heap.size w w'
theorem its_own {w : World} {base c : Nat} {A : Option Addr} {L : List It} {m : Nat} (h : w.ownsRow base 41 4 (.slice A m c) m (itsC L)) (hl : L.length = m) : ItsRead w A m L := ⟨hl, Reads.of_own h⟩
theorem itsC_one (x : It) : itsC [x] = [.string x.k, .string x.t, .int .i64 x.z, .int .i64 x.r] := rfl
def takeI (q : Int) (l : List It) : List It := l.take q.toNat
theorem takeI_yes {q : Int} {F : List It} (x : It) (h : (((takeI q F).length : Nat) : Int) < q) : takeI q (F ++ [x]) = takeI q F ++ [x] := by
  unfold takeI at *
  rw [List.length_take] at h
  rw [List.take_of_length_le (by rw [List.length_append, List.length_singleton]; omega), List.take_of_length_le (l := F) (by omega)]
end Go.Proofs.YtokfclikhfpmhaaGreatDoor
namespace Go.Proofs.YtokfclikhfpmhaaGreatDoor
open Go.RowKit Go.Sort
set_option linter.unusedVariables false
set_option linter.unusedSimpArgs false
set_option maxRecDepth 100000
set_option maxHeartbeats 4000000 in
theorem rDelete15_any (A : Option Addr) (n c : Nat) (L : List It) (key : ByteArray) (w : World) (hA : ItsRead w A n L) (hn : n ≤ 1000000) :
    Calls Tryz.prog 35 #[.slice A n c, .string key] w (fun e w' => ∃ A' c', e = .returned (.tuple #[.slice A' (ixDel L key).length c', .bool (decide ((ixDel L key).length < n))]) ∧ ItsRead w' A' (ixDel L key).length (ixDel L key) ∧ Below w.heap.size w w') := by
  have hl : n ≤ L.length ∧ L.length ≤ n := by have := hA.len; omega
  obtain ⟨i0, hi0, hz0, hz1, hz2⟩ := info_parts infoItem
  have HI : Hid ((Tryz.prog.info? 41 = some i0) ∧ i0.zero = some (.agg #[.string ⟨#[]⟩, .string ⟨#[]⟩, .int .i64 0, .int .i64 0]) ∧ i0.size = 4 ∧ i0.bytes = 48) := Lib.hid ⟨hi0, hz0, hz1, hz2⟩
  have HA := Lib.hid hA
  clear hi0 hz0 hz1 hz2 hA
  go_enter Tryz.func35, Tryz.ntmps35
  go_wp2
  go_loopw [6, 7] (fun va vi wr => ∃ (k m : Nat) (acc : List It) (A' : Option Addr) (c' : Nat), (vi = .int .i64 k ∧ va = .slice A' m c' ∧ k ≤ n ∧ m ≤ k) ∧ Hid (ixDel (L.take k) key = acc ∧ acc.length = m) ∧ wr.ownsRow w.heap.size 41 4 (.slice A' m c') m (itsC acc) ∧ Below w.heap.size w wr) (fun _ i _ => n - (intOf i).toNat)
  case atStart => exact ⟨0, 0, [], none, 0, ⟨rfl, rfl, Nat.zero_le _, Nat.le_refl _⟩, Lib.hid ⟨by simp [ixDel], rfl⟩, World.ownsRow_nil _ _ _ _, Below.refl _ _⟩
  case round =>
    obtain ⟨k, m, acc, A', c', ⟨rfl, rfl, hk, hm⟩, HK, hown, hbr⟩ := hrel
    have hbs := hbr.size
    by_cases hlt : k < n
    · skip
      obtain ⟨x, hx⟩ : ∃ x, L[k]? = some x := ⟨_, List.getElem?_eq_getElem (by omega)⟩
      obtain ⟨b, o, rfl, c0, c1, c2, c3⟩ := (HA.out.keep hbr).cells hx
      have hk0 : (0 : Int) ≤ (k : Int) := by omega
      have hk1 : (k : Int) < (n : Int) := by omega
      have htk := take_at hx
      have hml := HK.out.2
      by_cases he : x.k = key
      · have hv : ixDel (L.take (k + 1)) key = acc ∧ acc.length = m := ⟨by rw [htk, ← HK.out.1]; simp [ixDel, List.filter_append, he], hml⟩
        have HV := Lib.hid hv
        have hq : (x.k.toList == key.toList) = true := by rw [he]; simp
        have hq2 : x.k.toList = key.toList := by rw [he]
        clear hx HK hv htk hml he
        go_wp2
        exact ⟨⟨k + 1, m, acc, A', c', ⟨by go_num, rfl, by omega, by omega⟩, HV, hown, hbr⟩, by simp [intOf]; omega⟩
      · have hv : ixDel (L.take (k + 1)) key = acc ++ [x] ∧ (acc ++ [x]).length = m + 1 := ⟨by rw [htk, ← HK.out.1]; simp [ixDel, List.filter_append, he], by simp [hml]⟩
        have HV := Lib.hid hv
        have hq : (x.k.toList == key.toList) = false := by rw [beq_dec]; simpa using he
        have hq2 : ¬ x.k.toList = key.toList := by simpa using hq
        clear hx HK hv htk hml he
        go_wp2_with (at_builtin; refine wpList_append_own _ rfl _ _ 28 rfl w.heap.size 41 i0 (.agg #[.string ⟨#[]⟩, .string ⟨#[]⟩, .int .i64 0, .int .i64 0]) 4 48 Tryz.underlying28 HI.out.1 HI.out.2.1 HI.out.2.2.1 HI.out.2.2.2 rfl (by decide) _ _ _ rfl (hown.alloc _) ⟨wr.heap.size, 0, none⟩ 1 1 [.string x.k, .string x.t, .int .i64 x.z, .int .i64 x.r] rfl rfl (World.news_of_block (cs := #[.string x.k, .string x.t, .int .i64 x.z, .int .i64 x.r]) (t := 41) (fr := (0, 0)) (World.alloc_heap_new wr _)) (by simp [Value.oneCell']) (by unfold maxLen; omega) (by omega) (by simp; omega) ?_; intro v' w3 hown1 hgrow1 _; obtain ⟨g1, cap1, rfl⟩ := ownsRow_succ hown1; have hb3 : Below w.heap.size w w3 := (hbr.alloc hbs _).grown hgrow1 (by simp; omega) (fun r e => by have := ownsRow_block hown r e; omega))
        exact ⟨⟨k + 1, m + 1, acc ++ [x], some ⟨g1, 0, none⟩, cap1, ⟨by go_num, rfl, by omega, by omega⟩, HV, by rw [itsC_app, itsC_one]; exact hown1, hb3⟩, by simp [intOf]; omega⟩
    · obtain rfl : k = n := by omega
      have hv : ixDel L key = acc ∧ acc.length = m := by
        have := HK.out
        rwa [List.take_of_length_le (by omega)] at this
      have HV := Lib.hid hv
      clear HK hv
      go_wp2
      go_ret2
      rw [HV.out.1, HV.out.2]
      exact ⟨A', c', by simp, its_own hown HV.out.2, hbr⟩
end Go.Proofs.YtokfclikhfpmhaaGreatDoor
namespace Go.Proofs.YtokfclikhfpmhaaGreatDoor
open Go.RowKit Go.Sort
set_option linter.unusedVariables false
set_option linter.unusedSimpArgs false
set_option maxRecDepth 100000
structure PutW (w : World) (x0 : It) (W : World) : Prop where
  a : RowV W w.heap.size 41 [.string x0.k, .string x0.t, .int .i64 x0.z, .int .i64 x0.r]
  r : RowV W (w.heap.size + 1) 78 [.slice none 0 0, .int .i64 0]
theorem PutW.facts {w W : World} {x0 : It} (h : PutW w x0 W) : W.cell? ⟨w.heap.size, 0, none⟩ = some (.string x0.k) ∧ W.cell? ⟨w.heap.size, 1, none⟩ = some (.string x0.t) ∧ W.cell? ⟨w.heap.size, 2, none⟩ = some (.int .i64 x0.z) ∧ W.cell? ⟨w.heap.size, 3, none⟩ = some (.int .i64 x0.r) :=
  ⟨h.a.cell rfl, h.a.cell rfl, h.a.cell rfl, h.a.cell rfl⟩
theorem PutW.keep {w W W' : World} {x0 : It} (h : PutW w x0 W) (hb : Below W.heap.size W W') : PutW w x0 W' := ⟨h.a.keep hb, h.r.keep hb⟩
theorem PutW.grown {w W W' : World} {x0 : It} {v : Value} {m base : Nat} {xs : List Value} (h : PutW w x0 W) (ho : W.ownsRow base 41 4 v m xs) (hb : w.heap.size + 1 < base) (hg : W.grownBy W' v.ownBlock) : PutW w x0 W' :=
  ⟨(hg.block _ h.a.lt (fun e => by have := ownsRow_block ho _ e.symm; omega)).trans h.a, (hg.block _ h.r.lt (fun e => by have := ownsRow_block ho _ e.symm; omega)).trans h.r⟩
def PutPost (r : List It × Int) (w : World) (e : Ending) (w' : World) : Prop := ∃ A c, e = .returned (.agg #[.slice A r.1.length c, .int .i64 r.2]) ∧ ItsRead w' A r.1.length r.1 ∧ Below w.heap.size w w'
theorem getV_form (o : Option It) : ∃ (s t : ByteArray) (z r : Int) (d : Bool), getV o = .tuple #[.agg #[.string s, .string t, .int .i64 z, .int .i64 r], .bool d] := by
  cases o with
  | none => exact ⟨_, _, _, _, _, rfl⟩
  | some x => exact ⟨_, _, _, _, _, rfl⟩
theorem leB_of {a b : ByteArray} (h : leB a b = true) : (Op.bytesLess a.toList b.toList || a.toList == b.toList) = true := by rw [less_leB]; exact h
set_option maxHeartbeats 4000000 in
theorem rPut15_any (A : Option Addr) (n c : Nat) (L : List It) (x0 : It) (w : World) (hA : ItsRead w A n L) (hn : n ≤ 1000) (hup : UpI L) (hv : ∀ W, Calls Tryz.prog 30 #[.agg #[.string x0.k, .string x0.t, .int .i64 x0.z, .int .i64 x0.r]] W (Ret W (.bool (validI x0)))) :
    Calls Tryz.prog 36 #[.slice A n c, .agg #[.string x0.k, .string x0.t, .int .i64 x0.z, .int .i64 x0.r]] w (PutPost (ixPutS L x0) w) := by
  have hl : n ≤ L.length ∧ L.length ≤ n := by have := hA.len; omega
  obtain ⟨i0, hi0, hz0, hz1, hz2⟩ := info_parts infoItem
  have HI : Hid ((Tryz.prog.info? 41 = some i0) ∧ i0.zero = some (.agg #[.string ⟨#[]⟩, .string ⟨#[]⟩, .int .i64 0, .int .i64 0]) ∧ i0.size = 4 ∧ i0.bytes = 48) := Lib.hid ⟨hi0, hz0, hz1, hz2⟩
  have hg := fun W (hb : Below w.heap.size w W) => rGet15_any A n c L x0.k W (hA.keep hb) (by omega)
  have hput := ipO_eq x0 hup
  have hr : ixPutS L x0 = if validI x0 then (ixPut L x0, 0) else (L, 1) := by
    unfold ixPutS
    simp only [decide_eq_false (show ¬ L.length = 1048576 by omega), Bool.and_false, Bool.false_eq_true, if_false]
  rw [hr]
  have HA := Lib.hid hA; have HG := Lib.hid hg; have HV := Lib.hid hv; have HP := Lib.hid hput
  clear hi0 hz0 hz1 hz2 hA hg hv hup hr hput
  generalize validI x0 = v at *
  have hw1 : PutW w x0 ((w.alloc (.cells #[.string x0.k, .string x0.t, .int .i64 x0.z, .int .i64 x0.r] 41)).alloc (.cells #[.slice none 0 0, .int .i64 0] 78)) := ⟨(RowV.new w _ [.string x0.k, .string x0.t, .int .i64 x0.z, .int .i64 x0.r]).keep (balloc (Below.refl _ _) _), (by have h := RowV.new (w.alloc (.cells #[.string x0.k, .string x0.t, .int .i64 x0.z, .int .i64 x0.r] 41)) 78 [.slice none 0 0, .int .i64 0]; rwa [World.size_alloc] at h)⟩
  have HW := Lib.hid hw1
  clear hw1
  obtain ⟨gs, gt, gz, gr, gd, hgv⟩ := getV_form (ixGet L x0.k)
  have hG2 := HG.out
  rw [hgv] at hG2
  have HG := Lib.hid hG2
  clear hG2 hgv
  have hn48 : ¬ (n : Int) = 1048576 := by omega
  cases v
  · rw [if_neg (by decide)]
    go_enter Tryz.func36, Tryz.ntmps36
    go_wp2_with (go_at_call 30; refine (HV.out _).mono ?_; rintro e w2 ⟨rfl, hb2⟩; clear HV; have hP2 := HW.out.keep hb2; obtain ⟨y0, y1, y2, y3⟩ := hP2.facts; have m0 := hP2.r.cell (k := 0) rfl; have m1 := hP2.r.cell (k := 1) rfl; have g0 := hP2.r.free 0; have g1 := hP2.r.free 1)
    have hS := (hP2.r.set_ 0 (.slice A n c)).set_ 1 (.int .i64 1)
    have hb4 : Below w.heap.size w ((w2.setCell ⟨w.heap.size + 1, 0, none⟩ (.slice A n c)).setCell ⟨w.heap.size + 1, 1, none⟩ (.int .i64 1)) := belB
    generalize hw4 : World.setCell _ _ _ = w4 at *
    have q0 := hS.cell (k := 0) rfl
    have q1 := hS.cell (k := 1) rfl
    exact bodyPost_ret (v := .agg #[.slice A n c, .int .i64 1]) (by simp [results, Tryz.results36, go_sem, q0, q1]) rfl ⟨A, c, by rw [HA.out.len], by rw [HA.out.len]; exact HA.out.keep hb4, hb4⟩
  · rw [if_pos rfl]
    cases gd
    all_goals
      go_enter Tryz.func36, Tryz.ntmps36
      go_upto_region 7 with (first | (go_at_call 30; refine (HV.out _).mono ?_; rintro e w2 ⟨rfl, hb2⟩; clear HV; have hP2 := HW.out.keep hb2; obtain ⟨y0, y1, y2, y3⟩ := hP2.facts; have m0 := hP2.r.cell (k := 0) rfl; have m1 := hP2.r.cell (k := 1) rfl; have g0 := hP2.r.free 0; have g1 := hP2.r.free 1) | (go_at_call 28; refine (HG.out _ belB).mono ?_; rintro e w5 ⟨rfl, hb5⟩; clear HG; have hP5 := hP2.keep hb5; have hb25 : Below w.heap.size w w5 := belB; clear hP2 y0 y1 y2 y3 m0 m1 g0 g1))
      try simp only [show ((n : Int) == 1048576) = false by simpa using hn48]
      clear HW
      have hX6 : PutW w x0 (w5.alloc (.cells #[.string gs, .string gt, .int .i64 gz, .int .i64 gr] 41)) := hP5.keep (balloc (Below.refl _ _) _)
      have hb6 : Below w.heap.size w (w5.alloc (.cells #[.string gs, .string gt, .int .i64 gz, .int .i64 gr] 41)) := balloc hb25 _
      generalize hw6 : w5.alloc (.cells #[.string gs, .string gt, .int .i64 gz, .int .i64 gr] 41) = w6 at *
      have hz6 : w.heap.size + 2 ≤ w6.heap.size := by have := hX6.r.lt; omega
      have HX6 := Lib.hid hX6; have HB6 := Lib.hid hb6; have HZ6 := Lib.hid hz6
      clear hw6 hP5 hb25 hb2 hb5 hX6 hb6 hz6 hn48
      go_wp2
      go_loopw [8, 9, 10] (fun va vp vi wr => ∃ (k m : Nat) (pl : Bool) (acc : List It) (A' : Option Addr) (c' : Nat), (vi = .int .i64 k ∧ vp = .bool pl ∧ va = .slice A' m c' ∧ k ≤ n ∧ m ≤ 2 * k) ∧ Hid ((L.take k).foldl (ipSt x0) ([], false) = (acc, pl) ∧ acc.length = m) ∧ wr.ownsRow (w.heap.size + 2) 41 4 (.slice A' m c') m (itsC acc) ∧ PutW w x0 wr ∧ Below w.heap.size w wr ∧ w.heap.size + 2 ≤ wr.heap.size) (fun _ _ i _ => n - (intOf i).toNat)
      case atStart => exact ⟨0, 0, false, [], none, 0, ⟨rfl, rfl, rfl, Nat.zero_le _, Nat.le_refl _⟩, Lib.hid ⟨rfl, rfl⟩, World.ownsRow_nil _ _ _ _, HX6.out, HB6.out, HZ6.out⟩
      case round =>
        clear HX6 HB6 HZ6
        obtain ⟨k, m, pl, acc, A', c', ⟨rfl, rfl, rfl, hk, hm⟩, HK, hown, hX, hbr, hzr⟩ := hrel
        have hbs := hbr.size
        obtain ⟨y0, y1, y2, y3⟩ := hX.facts
        by_cases hlt : k < n
        · obtain ⟨x, hx⟩ : ∃ x, L[k]? = some x := ⟨_, List.getElem?_eq_getElem (by omega)⟩
          obtain ⟨b, o, rfl, c0, c1, c2, c3⟩ := (HA.out.keep hbr).cells hx
          have hst : (L.take (k + 1)).foldl (ipSt x0) ([], false) = ipSt x0 (acc, pl) x := by rw [take_at hx, List.foldl_append, HK.out.1]; rfl
          have hk0 : (0 : Int) ≤ (k : Int) := by omega
          have hk1 : (k : Int) < (n : Int) := by omega
          have hml := HK.out.2
          have HX := Lib.hid hx
          clear hx
          by_cases hfirst : pl = false ∧ leB x0.k x.k = true
          · obtain ⟨rfl, hle⟩ := hfirst
            have e1 : ipA x0 (acc, false) x = (acc ++ [x0], true) := by simp [ipA, hle]
            have hle2 := leB_of hle
            by_cases he : x.k = x0.k
            · have e2 : ipSt x0 (acc, false) x = (acc ++ [x0], true) := by rw [ipSt_hit he, e1]
              have HK2 := Lib.hid (show (L.take (k + 1)).foldl (ipSt x0) ([], false) = (acc ++ [x0], true) ∧ (acc ++ [x0]).length = m + 1 from ⟨hst.trans e2, by simp [hml]⟩)
              have hq : (x.k.toList == x0.k.toList) = true := by rw [he]; simp
              clear e1 e2 hst hml HK hle he
              go_wp2_with fail
              (have k1 := cell_regrown c0; have k3 := cell_regrown y0; refine wp_region_quiet_below (by kernel_rfl) (by kernel_rfl) ?_; (repeat (any_goals (first | go_big_quiet_step (fail) | quiet_step (fail)))); refine wpQuiet_nil ?_; intro _ hwq; obtain ⟨⟨dq, osq⟩, hwq⟩ := hwq; subst hwq; have hbq := below_regrown (wr) dq osq; generalize grow (redrawn (wr) dq) osq = wq at *; have hownq := ownsRow_keep hown hbq; have hXq := hX.keep hbq; have hbrq := bstep hbr hbq; have hzrq := Nat.le_trans hzr hbq.size; clear k1 k3 hown hX c0 c1 c2 c3 hbr hzr hbs y0 y1 y2 y3 hbq; obtain ⟨y0, y1, y2, y3⟩ := hXq.facts; obtain ⟨c0, c1, c2, c3⟩ := (HA.out.keep hbrq).cells_at HX.out; have hbs := hbrq.size; have hown := hownq; have hX := hXq; have hbr := hbrq; have hzr := hzrq; clear hownq hXq hbrq hzrq; obtain ⟨wr, rfl⟩ : ∃ x : World, x = wq := ⟨_, rfl⟩)
              go_wp2_with (at_builtin; refine wpList_append_own _ rfl _ _ 28 rfl (w.heap.size + 2) 41 i0 (.agg #[.string ⟨#[]⟩, .string ⟨#[]⟩, .int .i64 0, .int .i64 0]) 4 48 Tryz.underlying28 HI.out.1 HI.out.2.1 HI.out.2.2.1 HI.out.2.2.2 rfl (by decide) _ _ _ rfl (hown.alloc _) ⟨wr.heap.size, 0, none⟩ 1 1 [.string x0.k, .string x0.t, .int .i64 x0.z, .int .i64 x0.r] rfl rfl (World.news_of_block (cs := #[.string x0.k, .string x0.t, .int .i64 x0.z, .int .i64 x0.r]) (t := 41) (fr := (0, 0)) (World.alloc_heap_new wr _)) (by simp [Value.oneCell']) (by unfold maxLen; omega) (by omega) (by simp; omega) ?_; intro v' w3 hown1 hgrow1 _; obtain ⟨g1, cap1, rfl⟩ := ownsRow_succ hown1; have hb3 : Below w.heap.size w w3 := (hbr.alloc hbs _).grown hgrow1 (by simp; omega) (fun r e => by have := ownsRow_block hown r e; omega); have hbs3 := hb3.size; have hX3 : PutW w x0 w3 := (hX.keep (balloc (Below.refl _ _) _)).grown (hown.alloc _) (by omega) hgrow1; obtain ⟨z0, z1, z2, z3⟩ := hX3.facts; have hz3 : w.heap.size + 2 ≤ w3.heap.size := (by have := hgrow1.size; simp at this; omega); obtain ⟨d0, d1, d2, d3⟩ := (HA.out.keep hb3).cells_at HX.out; clear hown)
              (have k1 := cell_regrown d0; have k3 := cell_regrown z0; refine wp_region_quiet_below (by kernel_rfl) (by kernel_rfl) ?_; (repeat (any_goals (first | go_big_quiet_step (fail) | quiet_step (fail)))); refine wpQuiet_nil ?_; intro _ hwq; obtain ⟨⟨dq, osq⟩, hwq⟩ := hwq; subst hwq; have hbq := below_regrown (w3) dq osq; generalize grow (redrawn (w3) dq) osq = wq at *; have hownq := ownsRow_keep hown1 hbq; have hXq := hX3.keep hbq; have hbrq := bstep hb3 hbq; have hzrq := Nat.le_trans hz3 hbq.size; clear k1 k3 hown1 hX3 d0 d1 d2 d3 hb3 hz3 hbs3 z0 z1 z2 z3 hbq hgrow1; obtain ⟨z0, z1, z2, z3⟩ := hXq.facts; obtain ⟨d0, d1, d2, d3⟩ := (HA.out.keep hbrq).cells_at HX.out; have hbs3 := hbrq.size; have hown1 := hownq; have hX3 := hXq; have hb3 := hbrq; have hz3 := hzrq; clear hownq hXq hbrq hzrq; obtain ⟨w3, rfl⟩ : ∃ x : World, x = wq := ⟨_, rfl⟩)
              go_wp2
              exact ⟨⟨k + 1, m + 1, true, acc ++ [x0], some ⟨g1, 0, none⟩, cap1, ⟨by go_num, rfl, rfl, by omega, by omega⟩, HK2, by rw [itsC_app]; exact hown1, hX3, hb3, hz3⟩, by simp [intOf]; omega⟩
            · have e2 : ipSt x0 (acc, false) x = (acc ++ [x0] ++ [x], true) := by rw [ipSt_miss he, e1]
              have HK2 := Lib.hid (show (L.take (k + 1)).foldl (ipSt x0) ([], false) = (acc ++ [x0] ++ [x], true) ∧ (acc ++ [x0] ++ [x]).length = m + 1 + 1 from ⟨hst.trans e2, by simp [hml]⟩)
              have hq : (x.k.toList == x0.k.toList) = false := by rw [beq_dec]; simpa using he
              have hq2 : ¬ x.k.toList = x0.k.toList := by simpa using hq
              clear e1 e2 hst hml HK hle he
              go_wp2_with fail
              (have k1 := cell_regrown c0; have k3 := cell_regrown y0; refine wp_region_quiet_below (by kernel_rfl) (by kernel_rfl) ?_; (repeat (any_goals (first | go_big_quiet_step (fail) | quiet_step (fail)))); refine wpQuiet_nil ?_; intro _ hwq; obtain ⟨⟨dq, osq⟩, hwq⟩ := hwq; subst hwq; have hbq := below_regrown (wr) dq osq; generalize grow (redrawn (wr) dq) osq = wq at *; have hownq := ownsRow_keep hown hbq; have hXq := hX.keep hbq; have hbrq := bstep hbr hbq; have hzrq := Nat.le_trans hzr hbq.size; clear k1 k3 hown hX c0 c1 c2 c3 hbr hzr hbs y0 y1 y2 y3 hbq; obtain ⟨y0, y1, y2, y3⟩ := hXq.facts; obtain ⟨c0, c1, c2, c3⟩ := (HA.out.keep hbrq).cells_at HX.out; have hbs := hbrq.size; have hown := hownq; have hX := hXq; have hbr := hbrq; have hzr := hzrq; clear hownq hXq hbrq hzrq; obtain ⟨wr, rfl⟩ : ∃ x : World, x = wq := ⟨_, rfl⟩)
              go_wp2_with (at_builtin; refine wpList_append_own _ rfl _ _ 28 rfl (w.heap.size + 2) 41 i0 (.agg #[.string ⟨#[]⟩, .string ⟨#[]⟩, .int .i64 0, .int .i64 0]) 4 48 Tryz.underlying28 HI.out.1 HI.out.2.1 HI.out.2.2.1 HI.out.2.2.2 rfl (by decide) _ _ _ rfl (hown.alloc _) ⟨wr.heap.size, 0, none⟩ 1 1 [.string x0.k, .string x0.t, .int .i64 x0.z, .int .i64 x0.r] rfl rfl (World.news_of_block (cs := #[.string x0.k, .string x0.t, .int .i64 x0.z, .int .i64 x0.r]) (t := 41) (fr := (0, 0)) (World.alloc_heap_new wr _)) (by simp [Value.oneCell']) (by unfold maxLen; omega) (by omega) (by simp; omega) ?_; intro v' w3 hown1 hgrow1 _; obtain ⟨g1, cap1, rfl⟩ := ownsRow_succ hown1; have hb3 : Below w.heap.size w w3 := (hbr.alloc hbs _).grown hgrow1 (by simp; omega) (fun r e => by have := ownsRow_block hown r e; omega); have hbs3 := hb3.size; have hX3 : PutW w x0 w3 := (hX.keep (balloc (Below.refl _ _) _)).grown (hown.alloc _) (by omega) hgrow1; obtain ⟨z0, z1, z2, z3⟩ := hX3.facts; have hz3 : w.heap.size + 2 ≤ w3.heap.size := (by have := hgrow1.size; simp at this; omega); obtain ⟨d0, d1, d2, d3⟩ := (HA.out.keep hb3).cells_at HX.out; clear hown)
              (have k1 := cell_regrown d0; have k3 := cell_regrown z0; refine wp_region_quiet_below (by kernel_rfl) (by kernel_rfl) ?_; (repeat (any_goals (first | go_big_quiet_step (fail) | quiet_step (fail)))); refine wpQuiet_nil ?_; intro _ hwq; obtain ⟨⟨dq, osq⟩, hwq⟩ := hwq; subst hwq; have hbq := below_regrown (w3) dq osq; generalize grow (redrawn (w3) dq) osq = wq at *; have hownq := ownsRow_keep hown1 hbq; have hXq := hX3.keep hbq; have hbrq := bstep hb3 hbq; have hzrq := Nat.le_trans hz3 hbq.size; clear k1 k3 hown1 hX3 d0 d1 d2 d3 hb3 hz3 hbs3 z0 z1 z2 z3 hbq hgrow1; obtain ⟨z0, z1, z2, z3⟩ := hXq.facts; obtain ⟨d0, d1, d2, d3⟩ := (HA.out.keep hbrq).cells_at HX.out; have hbs3 := hbrq.size; have hown1 := hownq; have hX3 := hXq; have hb3 := hbrq; have hz3 := hzrq; clear hownq hXq hbrq hzrq; obtain ⟨w3, rfl⟩ : ∃ x : World, x = wq := ⟨_, rfl⟩)
              go_wp2_with (at_builtin; refine wpList_append_own _ rfl _ _ 28 rfl (w.heap.size + 2) 41 i0 (.agg #[.string ⟨#[]⟩, .string ⟨#[]⟩, .int .i64 0, .int .i64 0]) 4 48 Tryz.underlying28 HI.out.1 HI.out.2.1 HI.out.2.2.1 HI.out.2.2.2 rfl (by decide) _ _ _ rfl (hown1.alloc _) ⟨w3.heap.size, 0, none⟩ 1 1 [.string x.k, .string x.t, .int .i64 x.z, .int .i64 x.r] rfl rfl (World.news_of_block (cs := #[.string x.k, .string x.t, .int .i64 x.z, .int .i64 x.r]) (t := 41) (fr := (0, 0)) (World.alloc_heap_new w3 _)) (by simp [Value.oneCell']) (by unfold maxLen; omega) (by omega) (by simp; omega) ?_; intro v' w4 hown2 hgrow2 _; obtain ⟨g2, cap2, rfl⟩ := ownsRow_succ hown2; have hb4 : Below w.heap.size w w4 := (hb3.alloc hbs3 _).grown hgrow2 (by simp; omega) (fun r e => by have := ownsRow_block hown1 r e; omega); have hX4 : PutW w x0 w4 := (hX3.keep (balloc (Below.refl _ _) _)).grown (hown1.alloc _) (by omega) hgrow2; have hz4 : w.heap.size + 2 ≤ w4.heap.size := (by have := hgrow2.size; simp at this; omega))
              exact ⟨⟨k + 1, m + 1 + 1, true, acc ++ [x0] ++ [x], some ⟨g2, 0, none⟩, cap2, ⟨by go_num, rfl, rfl, by omega, by omega⟩, HK2, by rw [itsC_app, itsC_app]; exact hown2, hX4, hb4, hz4⟩, by simp [intOf]; omega⟩
          · have e1 : ipA x0 (acc, pl) x = (acc, pl) := by
              unfold ipA
              rw [if_neg]
              intro h
              simp only [Bool.and_eq_true, Bool.not_eq_true'] at h
              exact hfirst h
            have hguard : pl = true ∨ (pl = false ∧ (Op.bytesLess x0.k.toList x.k.toList || x0.k.toList == x.k.toList) = false) := by
              cases pl
              · right
                refine ⟨rfl, ?_⟩
                rw [less_leB]
                cases hle : leB x0.k x.k
                · rfl
                · exact absurd ⟨rfl, hle⟩ hfirst
              · exact .inl rfl
            clear hfirst
            by_cases he : x.k = x0.k
            · have e2 : ipSt x0 (acc, pl) x = (acc, pl) := by rw [ipSt_hit he, e1]
              have HK2 := Lib.hid (show (L.take (k + 1)).foldl (ipSt x0) ([], false) = (acc, pl) ∧ acc.length = m from ⟨hst.trans e2, hml⟩)
              have hq : (x.k.toList == x0.k.toList) = true := by rw [he]; simp
              rcases hguard with rfl | ⟨rfl, hg⟩
              · clear e1 e2 hst hml HK he
                go_wp2_with fail
                (have k1 := cell_regrown c0; have k3 := cell_regrown y0; refine wp_region_quiet_below (by kernel_rfl) (by kernel_rfl) ?_; (repeat (any_goals (first | go_big_quiet_step (fail) | quiet_step (fail)))); refine wpQuiet_nil ?_; intro _ hwq; obtain ⟨⟨dq, osq⟩, hwq⟩ := hwq; subst hwq; have hbq := below_regrown (wr) dq osq; generalize grow (redrawn (wr) dq) osq = wq at *; have hownq := ownsRow_keep hown hbq; have hXq := hX.keep hbq; have hbrq := bstep hbr hbq; have hzrq := Nat.le_trans hzr hbq.size; clear k1 k3 hown hX c0 c1 c2 c3 hbr hzr hbs y0 y1 y2 y3 hbq; obtain ⟨y0, y1, y2, y3⟩ := hXq.facts; obtain ⟨c0, c1, c2, c3⟩ := (HA.out.keep hbrq).cells_at HX.out; have hbs := hbrq.size; have hown := hownq; have hX := hXq; have hbr := hbrq; have hzr := hzrq; clear hownq hXq hbrq hzrq; obtain ⟨wr, rfl⟩ : ∃ x : World, x = wq := ⟨_, rfl⟩)
                go_wp2_with fail
                (have k1 := cell_regrown c0; have k3 := cell_regrown y0; refine wp_region_quiet_below (by kernel_rfl) (by kernel_rfl) ?_; (repeat (any_goals (first | go_big_quiet_step (fail) | quiet_step (fail)))); refine wpQuiet_nil ?_; intro _ hwq; obtain ⟨⟨dq, osq⟩, hwq⟩ := hwq; subst hwq; have hbq := below_regrown (wr) dq osq; generalize grow (redrawn (wr) dq) osq = wq at *; have hownq := ownsRow_keep hown hbq; have hXq := hX.keep hbq; have hbrq := bstep hbr hbq; have hzrq := Nat.le_trans hzr hbq.size; clear k1 k3 hown hX c0 c1 c2 c3 hbr hzr hbs y0 y1 y2 y3 hbq; obtain ⟨y0, y1, y2, y3⟩ := hXq.facts; obtain ⟨c0, c1, c2, c3⟩ := (HA.out.keep hbrq).cells_at HX.out; have hbs := hbrq.size; have hown := hownq; have hX := hXq; have hbr := hbrq; have hzr := hzrq; clear hownq hXq hbrq hzrq; obtain ⟨wr, rfl⟩ : ∃ x : World, x = wq := ⟨_, rfl⟩)
                go_wp2
                exact ⟨⟨k + 1, m, _, acc, A', c', ⟨by go_num, rfl, rfl, by omega, by omega⟩, HK2, hown, hX, hbr, hzr⟩, by simp [intOf]; omega⟩
              · exact absurd hg (by rw [he]; simp)
            · have e2 : ipSt x0 (acc, pl) x = (acc ++ [x], pl) := by rw [ipSt_miss he, e1]
              have HK2 := Lib.hid (show (L.take (k + 1)).foldl (ipSt x0) ([], false) = (acc ++ [x], pl) ∧ (acc ++ [x]).length = m + 1 from ⟨hst.trans e2, by simp [hml]⟩)
              have hq : (x.k.toList == x0.k.toList) = false := by rw [beq_dec]; simpa using he
              have hq2 : ¬ x.k.toList = x0.k.toList := by simpa using hq
              clear e1 e2 hst hml HK he
              rcases hguard with rfl | ⟨rfl, hg⟩
              all_goals
                go_wp2_with fail
                (have k1 := cell_regrown c0; have k3 := cell_regrown y0; refine wp_region_quiet_below (by kernel_rfl) (by kernel_rfl) ?_; (repeat (any_goals (first | go_big_quiet_step (fail) | quiet_step (fail)))); refine wpQuiet_nil ?_; intro _ hwq; obtain ⟨⟨dq, osq⟩, hwq⟩ := hwq; subst hwq; have hbq := below_regrown (wr) dq osq; generalize grow (redrawn (wr) dq) osq = wq at *; have hownq := ownsRow_keep hown hbq; have hXq := hX.keep hbq; have hbrq := bstep hbr hbq; have hzrq := Nat.le_trans hzr hbq.size; clear k1 k3 hown hX c0 c1 c2 c3 hbr hzr hbs y0 y1 y2 y3 hbq; obtain ⟨y0, y1, y2, y3⟩ := hXq.facts; obtain ⟨c0, c1, c2, c3⟩ := (HA.out.keep hbrq).cells_at HX.out; have hbs := hbrq.size; have hown := hownq; have hX := hXq; have hbr := hbrq; have hzr := hzrq; clear hownq hXq hbrq hzrq; obtain ⟨wr, rfl⟩ : ∃ x : World, x = wq := ⟨_, rfl⟩)
                go_wp2_with fail
                (have k1 := cell_regrown c0; have k3 := cell_regrown y0; refine wp_region_quiet_below (by kernel_rfl) (by kernel_rfl) ?_; (repeat (any_goals (first | go_big_quiet_step (fail) | quiet_step (fail)))); refine wpQuiet_nil ?_; intro _ hwq; obtain ⟨⟨dq, osq⟩, hwq⟩ := hwq; subst hwq; have hbq := below_regrown (wr) dq osq; generalize grow (redrawn (wr) dq) osq = wq at *; have hownq := ownsRow_keep hown hbq; have hXq := hX.keep hbq; have hbrq := bstep hbr hbq; have hzrq := Nat.le_trans hzr hbq.size; clear k1 k3 hown hX c0 c1 c2 c3 hbr hzr hbs y0 y1 y2 y3 hbq; obtain ⟨y0, y1, y2, y3⟩ := hXq.facts; obtain ⟨c0, c1, c2, c3⟩ := (HA.out.keep hbrq).cells_at HX.out; have hbs := hbrq.size; have hown := hownq; have hX := hXq; have hbr := hbrq; have hzr := hzrq; clear hownq hXq hbrq hzrq; obtain ⟨wr, rfl⟩ : ∃ x : World, x = wq := ⟨_, rfl⟩)
                go_wp2_with (at_builtin; refine wpList_append_own _ rfl _ _ 28 rfl (w.heap.size + 2) 41 i0 (.agg #[.string ⟨#[]⟩, .string ⟨#[]⟩, .int .i64 0, .int .i64 0]) 4 48 Tryz.underlying28 HI.out.1 HI.out.2.1 HI.out.2.2.1 HI.out.2.2.2 rfl (by decide) _ _ _ rfl (hown.alloc _) ⟨wr.heap.size, 0, none⟩ 1 1 [.string x.k, .string x.t, .int .i64 x.z, .int .i64 x.r] rfl rfl (World.news_of_block (cs := #[.string x.k, .string x.t, .int .i64 x.z, .int .i64 x.r]) (t := 41) (fr := (0, 0)) (World.alloc_heap_new wr _)) (by simp [Value.oneCell']) (by unfold maxLen; omega) (by omega) (by simp; omega) ?_; intro v' w3 hown1 hgrow1 _; obtain ⟨g1, cap1, rfl⟩ := ownsRow_succ hown1; have hb3 : Below w.heap.size w w3 := (hbr.alloc hbs _).grown hgrow1 (by simp; omega) (fun r e => by have := ownsRow_block hown r e; omega); have hX3 : PutW w x0 w3 := (hX.keep (balloc (Below.refl _ _) _)).grown (hown.alloc _) (by omega) hgrow1; have hz3 : w.heap.size + 2 ≤ w3.heap.size := (by have := hgrow1.size; simp at this; omega); clear hown)
                exact ⟨⟨k + 1, m + 1, _, acc ++ [x], some ⟨g1, 0, none⟩, cap1, ⟨by go_num, rfl, rfl, by omega, by omega⟩, HK2, by rw [itsC_app]; exact hown1, hX3, hb3, hz3⟩, by simp [intOf]; omega⟩
        · obtain rfl : k = n := by omega
          have hfin : L.foldl (ipSt x0) ([], false) = (acc, pl) := by
            have := HK.out.1
            rwa [List.take_of_length_le (by omega)] at this
          have hml := HK.out.2
          cases pl
          · have hv : ixPut L x0 = acc ++ [x0] := by rw [← HP.out]; unfold ipO; rw [hfin]; rfl
            have hvl : (ixPut L x0).length = m + 1 := by rw [hv]; simp [hml]
            have HV := Lib.hid hv
            have HVL := Lib.hid hvl
            clear hv hvl hfin hml HK
            go_upto_region 19 with (at_builtin; refine wpList_append_own _ rfl _ _ 28 rfl (w.heap.size + 2) 41 i0 (.agg #[.string ⟨#[]⟩, .string ⟨#[]⟩, .int .i64 0, .int .i64 0]) 4 48 Tryz.underlying28 HI.out.1 HI.out.2.1 HI.out.2.2.1 HI.out.2.2.2 rfl (by decide) _ _ _ rfl (hown.alloc _) ⟨wr.heap.size, 0, none⟩ 1 1 [.string x0.k, .string x0.t, .int .i64 x0.z, .int .i64 x0.r] rfl rfl (World.news_of_block (cs := #[.string x0.k, .string x0.t, .int .i64 x0.z, .int .i64 x0.r]) (t := 41) (fr := (0, 0)) (World.alloc_heap_new wr _)) (by simp [Value.oneCell']) (by unfold maxLen; omega) (by omega) (by simp; omega) ?_; intro v' w3 hown1 hgrow1 _; obtain ⟨g1, cap1, rfl⟩ := ownsRow_succ hown1; have hX3 : PutW w x0 w3 := (hX.keep (balloc (Below.refl _ _) _)).grown (hown.alloc _) (by omega) hgrow1; have hb3 : Below w.heap.size w w3 := (hbr.alloc hbs _).grown hgrow1 (by simp; omega) (fun r e => by have := ownsRow_block hown r e; omega))
            have m0 := hX3.r.cell (k := 0) rfl
            have m1 := hX3.r.cell (k := 1) rfl
            have g0 := hX3.r.free 0
            have g1' := hX3.r.free 1
            have HO := Lib.hid hown1
            have hgb : w.heap.size + 2 ≤ g1 := ownsRow_block hown1 g1 rfl
            clear hown hown1 hgrow1 hX
            go_wp2
            have hS := (hX3.r.set_ 0 (.slice (some ⟨g1, 0, none⟩) (m + 1) cap1)).set_ 1 (.int .i64 0)
            have hRd : ItsRead w3 (some ⟨g1, 0, none⟩) (m + 1) (acc ++ [x0]) := ⟨by have := HVL.out; rw [HV.out] at this; exact this, by rw [itsC_app]; exact Reads.of_own HO.out⟩
            have hb4 : Below w.heap.size w ((w3.setCell ⟨w.heap.size + 1, 0, none⟩ (.slice (some ⟨g1, 0, none⟩) (m + 1) cap1)).setCell ⟨w.heap.size + 1, 1, none⟩ (.int .i64 0)) := (hb3.setCell (by simp) _).setCell (by simp) _
            have hR4 : ItsRead ((w3.setCell ⟨w.heap.size + 1, 0, none⟩ (.slice (some ⟨g1, 0, none⟩) (m + 1) cap1)).setCell ⟨w.heap.size + 1, 1, none⟩ (.int .i64 0)) (some ⟨g1, 0, none⟩) (m + 1) (acc ++ [x0]) :=
              ⟨hRd.len, (hRd.rows.set_ _ _ (by intro a ha; cases ha; simp; omega)).set_ _ _ (by intro a ha; cases ha; simp; omega)⟩
            generalize hw4 : World.setCell _ _ _ = w4 at *
            have q0 := hS.cell (k := 0) rfl
            have q1 := hS.cell (k := 1) rfl
            exact bodyPost_ret (v := .agg #[.slice (some ⟨g1, 0, none⟩) (m + 1) cap1, .int .i64 0]) (by simp [results, Tryz.results36, go_sem, q0, q1]) rfl ⟨some ⟨g1, 0, none⟩, cap1, by rw [HVL.out], by rw [HVL.out, HV.out]; exact hR4, hb4⟩
          · have hv : ixPut L x0 = acc := by rw [← HP.out]; unfold ipO; rw [hfin]; rfl
            have HV := Lib.hid hv
            have HML := Lib.hid hml
            clear hv hfin hml HK
            have m0 := hX.r.cell (k := 0) rfl
            have m1 := hX.r.cell (k := 1) rfl
            have g0 := hX.r.free 0
            have g1' := hX.r.free 1
            go_wp2
            have hS := (hX.r.set_ 0 (.slice A' m c')).set_ 1 (.int .i64 0)
            have hb4 : Below w.heap.size w ((wr.setCell ⟨w.heap.size + 1, 0, none⟩ (.slice A' m c')).setCell ⟨w.heap.size + 1, 1, none⟩ (.int .i64 0)) := (hbr.setCell (by simp) _).setCell (by simp) _
            have hgb : ∀ a, A' = some a → w.heap.size + 2 ≤ a.block := fun a ha => ownsRow_block hown a.block (by rw [ha]; rfl)
            have hR4 : ItsRead ((wr.setCell ⟨w.heap.size + 1, 0, none⟩ (.slice A' m c')).setCell ⟨w.heap.size + 1, 1, none⟩ (.int .i64 0)) A' m acc :=
              ⟨HML.out, ((Reads.of_own hown).set_ _ _ (by intro a ha; have := hgb a ha; simp; omega)).set_ _ _ (by intro a ha; have := hgb a ha; simp; omega)⟩
            generalize hw4 : World.setCell _ _ _ = w4 at *
            have q0 := hS.cell (k := 0) rfl
            have q1 := hS.cell (k := 1) rfl
            exact bodyPost_ret (v := .agg #[.slice A' m c', .int .i64 0]) (by simp [results, Tryz.results36, go_sem, q0, q1]) rfl ⟨A', c', by rw [HV.out, HML.out], by rw [HV.out, HML.out]; exact hR4, hb4⟩
end Go.Proofs.YtokfclikhfpmhaaGreatDoor
