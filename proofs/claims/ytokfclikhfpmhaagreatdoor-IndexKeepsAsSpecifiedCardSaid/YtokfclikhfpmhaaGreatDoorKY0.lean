/- Plain: trees whose nodes have keys and priorities: what splitting, joining, finding and leaving out are to the list of their items. -/
import Derived.Test.YtokfclikhfpmhaaGreatDoorIZ29
namespace Go.Proofs.YtokfclikhfpmhaaGreatDoor.Tr
set_option linter.unusedVariables false
variable {α : Type}
variable {κ : Type} {key : α → κ} {lk : κ → κ → Bool}
theorem total_eq (sz : α → Int) : ∀ t : Tree α, total sz t = ((toL t).map sz).foldr (· + ·) 0
 | .nil => rfl
 | .node p x l r => by
  rw [total, total_eq sz l, total_eq sz r, toL, List.map_append, List.map_cons]
  have key : ∀ (a b : List Int), (a ++ b).foldr (· + ·) 0 = a.foldr (· + ·) 0 + b.foldr (· + ·) 0 := by
   intro a b
   induction a with
   | nil => simp
   | cons x a ih => rw [List.cons_append, List.foldr_cons, List.foldr_cons, ih]; omega
  rw [key, List.foldr_cons]
  omega
end Go.Proofs.YtokfclikhfpmhaaGreatDoor.Tr
namespace Go.Proofs.YtokfclikhfpmhaaGreatDoor
open Go.RowKit Go.Sort
set_option linter.unusedVariables false
set_option linter.unusedSimpArgs false
set_option maxRecDepth 100000
set_option linter.unusedVariables false
def ixSize (l : List It) : Int := (l.map It.z).foldr (· + ·) 0
end Go.Proofs.YtokfclikhfpmhaaGreatDoor
namespace Go.Proofs.YtokfclikhfpmhaaGreatDoor
open Go.RowKit Go.Sort
set_option linter.unusedVariables false
set_option linter.unusedSimpArgs false
set_option maxRecDepth 100000
theorem size_snoc (l : List It) (x : It) : ixSize (l ++ [x]) = ixSize l + x.z := by
 unfold ixSize
 rw [List.map_append, List.foldr_append]
 have key : ∀ (a : List Int) (c : Int), a.foldr (· + ·) c = a.foldr (· + ·) 0 + c := by
  intro a c
  induction a with
  | nil => simp
  | cons y a ih => rw [List.foldr_cons, List.foldr_cons, ih]; omega
 rw [key]
 simp
theorem size_bound : ∀ (l : List It), (∀ x ∈ l, 0 ≤ x.z ∧ x.z ≤ 1099511627776) → 0 ≤ ixSize l ∧ ixSize l ≤ (l.length : Int) * 1099511627776
 | [], _ => by simp [ixSize]
 | x :: l, h => by
  have h1 := size_bound l (fun y hy => h y (by simp [hy]))
  have h2 := h x (by simp)
  have e : ixSize (x :: l) = x.z + ixSize l := rfl
  rw [e, List.length_cons]
  push_cast
  omega
set_option maxHeartbeats 2000000 in
theorem rSize15_any (A : Option Addr) (n c : Nat) (L : List It) (w : World) (hA : ItsRead w A n L) (hn : n ≤ 1000) (hz : ∀ x ∈ L, 0 ≤ x.z ∧ x.z ≤ 1099511627776) :
  Calls Tryz.prog 31 #[.slice A n c] w (Ret w (.int .i64 (ixSize L))) := by
 have hl : n ≤ L.length ∧ L.length ≤ n := by have := hA.len; omega
 have HA := Lib.hid hA; have HZ := Lib.hid hz
 clear hA hz
 go_enter Tryz.func31, Tryz.ntmps31
 go_wp2
 go_loopw [3, 4] (fun s i wr => ∃ (k : Nat) (q : Int), k ≤ n ∧ i = .int .i64 k ∧ s = .int .i64 q ∧ Hid (q = ixSize (L.take k)) ∧ Below w.heap.size w wr) (fun _ i _ => n - (intOf i).toNat)
 case atStart => exact ⟨0, 0, by omega, rfl, rfl, Lib.hid rfl, Below.refl _ _⟩
 case round =>
  obtain ⟨k, q, hk, rfl, rfl, HI, hb⟩ := hrel
  by_cases hlt : k < n
  ·obtain ⟨x, hx⟩ : ∃ x, L[k]? = some x := ⟨_, List.getElem?_eq_getElem (by omega)⟩
   obtain ⟨b, o, rfl, c0, c1, c2, c3⟩ := (HA.out.keep hb).cells hx
   have hk0 : (0 : Int) ≤ (k : Int) := by omega
   have hk1 : (k : Int) < (n : Int) := by omega
   have hb1 := size_bound (L.take k) (fun y hy => HZ.out y (List.mem_of_mem_take hy))
   have hb2 : (L.take k).length ≤ 1000 := by rw [List.length_take]; omega
   have hb3 := HZ.out x (List.mem_of_getElem? hx)
   have hq := HI.out
   have hv : q + x.z = ixSize (L.take (k + 1)) := by rw [take_at hx, size_snoc, hq]
   have hw : wrap64 (q + x.z) = q + x.z := IntWalk.wrap64_in _ (by omega)
   have HV := Lib.hid hv
   clear hx HI hv hb1 hb2 hb3 hq c0 c1 c3
   go_wp2
   exact ⟨⟨k + 1, q + x.z, by omega, by go_num, by rw [hw], HV, belB⟩, by simp [intOf]; omega⟩
  ·obtain rfl : k = n := by omega
   have hv : q = ixSize L := by rw [HI.out, List.take_of_length_le (by omega)]
   have HV := Lib.hid hv
   clear HI hv
   go_wp2
   go_ret
   rw [HV.out]
   exact ⟨rfl, belB⟩
theorem takeI_no {q : Int} {F : List It} (x : It) (h : ¬ (((takeI q F).length : Nat) : Int) < q) : takeI q (F ++ [x]) = takeI q F := by
 unfold takeI at *
 rw [List.length_take] at h
 rw [List.take_append_of_le_length (by omega)]
end Go.Proofs.YtokfclikhfpmhaaGreatDoor
namespace Go.Proofs.YtokfclikhfpmhaaGreatDoor
open Go.RowKit Go.Sort
set_option linter.unusedVariables false
set_option linter.unusedSimpArgs false
set_option maxRecDepth 100000
set_option maxHeartbeats 4000000 in
theorem rFrom15_any (A : Option Addr) (n c : Nat) (L : List It) (key : ByteArray) (q : Int) (w : World) (hA : ItsRead w A n L) (hn : n ≤ 1000000) :
  Calls Tryz.prog 32 #[.slice A n c, .string key, .int .i64 q] w (ItsPost (takeI q (ixFrom L key)) w) := by
 have hl : n ≤ L.length ∧ L.length ≤ n := by have := hA.len; omega
 obtain ⟨i0, hi0, hz0, hz1, hz2⟩ := info_parts infoItem
 have HI : Hid ((Tryz.prog.info? 41 = some i0) ∧ i0.zero = some (.agg #[.string ⟨#[]⟩, .string ⟨#[]⟩, .int .i64 0, .int .i64 0]) ∧ i0.size = 4 ∧ i0.bytes = 48) := Lib.hid ⟨hi0, hz0, hz1, hz2⟩
 have HA := Lib.hid hA
 clear hi0 hz0 hz1 hz2 hA
 go_enter Tryz.func32, Tryz.ntmps32
 go_wp2
 go_loopw [7, 8] (fun va vi wr => ∃ (k m : Nat) (acc : List It) (A' : Option Addr) (c' : Nat), (vi = .int .i64 k ∧ va = .slice A' m c' ∧ k ≤ n ∧ m ≤ k) ∧ Hid (takeI q (ixFrom (L.take k) key) = acc ∧ acc.length = m) ∧ wr.ownsRow w.heap.size 41 4 (.slice A' m c') m (itsC acc) ∧ Below w.heap.size w wr) (fun _ i _ => n - (intOf i).toNat)
 case atStart => exact ⟨0, 0, [], none, 0, ⟨rfl, rfl, Nat.zero_le _, Nat.le_refl _⟩, Lib.hid ⟨by simp [takeI, ixFrom], rfl⟩, World.ownsRow_nil _ _ _ _, Below.refl _ _⟩
 case round =>
  obtain ⟨k, m, acc, A', c', ⟨rfl, rfl, hk, hm⟩, HK, hown, hbr⟩ := hrel
  have hbs := hbr.size
  by_cases hlt : k < n
  ·skip
   obtain ⟨x, hx⟩ : ∃ x, L[k]? = some x := ⟨_, List.getElem?_eq_getElem (by omega)⟩
   obtain ⟨b, o, rfl, c0, c1, c2, c3⟩ := (HA.out.keep hbr).cells hx
   have hk0 : (0 : Int) ≤ (k : Int) := by omega
   have hk1 : (k : Int) < (n : Int) := by omega
   have htk := take_at hx
   have hml := HK.out.2
   cases hge : ltB x.k key
   ·have hf : ixFrom (L.take (k + 1)) key = ixFrom (L.take k) key ++ [x] := by rw [htk]; simp [ixFrom, List.filter_append, hge]
    rw [← less_ltB] at hge
    by_cases hq : (m : Int) < q
    ·have hv : takeI q (ixFrom (L.take (k + 1)) key) = acc ++ [x] ∧ (acc ++ [x]).length = m + 1 := ⟨by rw [hf, takeI_yes x (by rw [HK.out.1, hml]; exact hq), HK.out.1], by simp [hml]⟩
     have HV := Lib.hid hv
     clear hx HK hv hf htk hml
     go_wp2_with (at_builtin; refine wpList_append_own _ rfl _ _ 28 rfl w.heap.size 41 i0 (.agg #[.string ⟨#[]⟩, .string ⟨#[]⟩, .int .i64 0, .int .i64 0]) 4 48 Tryz.underlying28 HI.out.1 HI.out.2.1 HI.out.2.2.1 HI.out.2.2.2 rfl (by decide) _ _ _ rfl (hown.alloc _) ⟨wr.heap.size, 0, none⟩ 1 1 [.string x.k, .string x.t, .int .i64 x.z, .int .i64 x.r] rfl rfl (World.news_of_block (cs := #[.string x.k, .string x.t, .int .i64 x.z, .int .i64 x.r]) (t := 41) (fr := (0, 0)) (World.alloc_heap_new wr _)) (by simp [Value.oneCell']) (by unfold maxLen; omega) (by omega) (by simp; omega) ?_; intro v' w3 hown1 hgrow1 _; obtain ⟨g1, cap1, rfl⟩ := ownsRow_succ hown1; have hb3 : Below w.heap.size w w3 := (hbr.alloc hbs _).grown hgrow1 (by simp; omega) (fun r e => by have := ownsRow_block hown r e; omega))
     exact ⟨⟨k + 1, m + 1, acc ++ [x], some ⟨g1, 0, none⟩, cap1, ⟨by go_num, rfl, by omega, by omega⟩, HV, by rw [itsC_app, itsC_one]; exact hown1, hb3⟩, by simp [intOf]; omega⟩
    ·have hv : takeI q (ixFrom (L.take (k + 1)) key) = acc ∧ acc.length = m := ⟨by rw [hf, takeI_no x (by rw [HK.out.1, hml]; exact hq), HK.out.1], hml⟩
     have HV := Lib.hid hv
     clear hx HK hv hf htk hml
     go_wp2
     exact ⟨⟨k + 1, m, acc, A', c', ⟨by go_num, rfl, by omega, by omega⟩, HV, hown, hbr⟩, by simp [intOf]; omega⟩
   ·have hf : ixFrom (L.take (k + 1)) key = ixFrom (L.take k) key := by rw [htk]; simp [ixFrom, List.filter_append, hge]
    rw [← less_ltB] at hge
    have hv : takeI q (ixFrom (L.take (k + 1)) key) = acc ∧ acc.length = m := ⟨by rw [hf, HK.out.1], hml⟩
    have HV := Lib.hid hv
    clear hx HK hv hf htk hml
    go_wp2
    exact ⟨⟨k + 1, m, acc, A', c', ⟨by go_num, rfl, by omega, by omega⟩, HV, hown, hbr⟩, by simp [intOf]; omega⟩
  ·obtain rfl : k = n := by omega
   have hv : takeI q (ixFrom L key) = acc ∧ acc.length = m := by
    have := HK.out
    rwa [List.take_of_length_le (by omega)] at this
   have HV := Lib.hid hv
   clear HK hv
   go_wp2
   go_ret
   rw [HV.out.1]
   exact ⟨A', c', by rw [HV.out.2]; rfl, by rw [HV.out.2]; exact its_own hown HV.out.2, hbr⟩
end Go.Proofs.YtokfclikhfpmhaaGreatDoor
namespace Go.Proofs.YtokfclikhfpmhaaGreatDoor
open Go.RowKit Go.Sort
set_option linter.unusedVariables false
set_option linter.unusedSimpArgs false
set_option maxRecDepth 100000
theorem total_size : ∀ t : ITr, Tr.total It.z t = ixSize (Tr.toL t) := fun t => Tr.total_eq It.z t
theorem ixSize_any (A : Option Addr) (L : List It) (w : World) (h : IxAt w A L) : Calls Tryz.prog 26 #[.agg #[.pointer A]] w (Ret w (.int .i64 (ixSize L))) := by
 obtain ⟨t, hn, rfl, _⟩ := h
 have hc := fun W (hb : Below w.heap.size w W) => total_ret t A W (NodeAt.keep hb hn)
 rw [total_size] at hc
 have HC := Lib.hid hc
 clear hc hn
 generalize ixSize (Tr.toL t) = n at *
 go_enter Tryz.func26, Tryz.ntmps26
 go_wp2_with (go_at_call 64; refine (HC.out _ belB).mono ?_; rintro e w2 ⟨rfl, hb2⟩)
 go_ret
 exact ⟨rfl, belB⟩
set_option maxHeartbeats 4000000 in
theorem ixGet_any (A : Option Addr) (L : List It) (k : ByteArray) (w : World) (h : IxAt w A L) (hu : UpI L) : Calls Tryz.prog 27 #[.agg #[.pointer A], .string k] w (Ret w (getV (ixGet L k))) := by
 obtain ⟨t, hn, hL, _⟩ := h
 have hc := fun W (hb : Below w.heap.size w W) => treeFind_any k t A W (NodeAt.keep hb hn)
 rw [find_get hL hu k] at hc
 have HF := Lib.hid hc
 clear hc hn hL hu
 have hr0 : RowV ((w.alloc (.cells #[.pointer A] 27)).alloc (.cells #[.string ⟨#[]⟩, .string ⟨#[]⟩, .int .i64 0, .int .i64 0] 41)) (w.heap.size + 1) 41 [.string ⟨#[]⟩, .string ⟨#[]⟩, .int .i64 0, .int .i64 0] := by
  have h := RowV.new (w.alloc (.cells #[.pointer A] 27)) 41 [.string ⟨#[]⟩, .string ⟨#[]⟩, .int .i64 0, .int .i64 0]
  rwa [World.size_alloc] at h
 have HR := Lib.hid hr0
 clear hr0
 cases hg : ixGet L k with
 | none =>
  rw [hg] at HF
  go_enter Tryz.func27, Tryz.ntmps27
  go_upto_region 2 with (go_at_call 58; refine (HF.out _ belB).mono ?_; rintro e w2 ⟨P, rfl, hP, hb2⟩; cases (show P = none from hP))
  have hR := HR.out.keep hb2
  have hbw : Below w.heap.size w w2 := belB
  have r0 := hR.cell (k := 0) rfl
  have r1 := hR.cell (k := 1) rfl
  have r2 := hR.cell (k := 2) rfl
  have r3 := hR.cell (k := 3) rfl
  have f0 := hR.free 0
  have f1 := hR.free 1
  have f2 := hR.free 2
  have f3 := hR.free 3
  clear hb2 HR hP
  go_wp2
  have hS := (((hR.set_ 0 (.string ⟨#[]⟩)).set_ 1 (.string ⟨#[]⟩)).set_ 2 (.int .i64 0)).set_ 3 (.int .i64 0)
  have hb4 : Below w.heap.size w ((((w2.setCell ⟨w.heap.size + 1, 0, none⟩ (.string ⟨#[]⟩)).setCell ⟨w.heap.size + 1, 1, none⟩ (.string ⟨#[]⟩)).setCell ⟨w.heap.size + 1, 2, none⟩ (.int .i64 0)).setCell ⟨w.heap.size + 1, 3, none⟩ (.int .i64 0)) := belB
  generalize hw4 : World.setCell _ _ _ = w4 at *
  have q0 := hS.cell (k := 0) rfl
  have q1 := hS.cell (k := 1) rfl
  have q2 := hS.cell (k := 2) rfl
  have q3 := hS.cell (k := 3) rfl
  exact bodyPost_ret (v := getV none) (by simp [results, Tryz.results27, go_sem, q0, q1, q2, q3, getV]) rfl ⟨rfl, hb4⟩
 | some x =>
  rw [hg] at HF
  go_enter Tryz.func27, Tryz.ntmps27
  go_upto_region 2 with (go_at_call 58; refine (HF.out _ belB).mono ?_; rintro e w2 ⟨P, rfl, hP, hb2⟩)
  obtain ⟨p, l, r, hnd⟩ := hP
  obtain ⟨b, L0, R0, rfl, _, _, _, hr, _⟩ := hnd.facts
  have c2 := hr.cell (k := 2) rfl
  have c3 := hr.cell (k := 3) rfl
  have c4 := hr.cell (k := 4) rfl
  have c5 := hr.cell (k := 5) rfl
  have hR := HR.out.keep hb2
  have hbw : Below w.heap.size w w2 := belB
  have r0 := hR.cell (k := 0) rfl
  have r1 := hR.cell (k := 1) rfl
  have r2 := hR.cell (k := 2) rfl
  have r3 := hR.cell (k := 3) rfl
  have f0 := hR.free 0
  have f1 := hR.free 1
  have f2 := hR.free 2
  have f3 := hR.free 3
  clear hb2 HR hr hnd
  go_wp2
  have hS := (((hR.set_ 0 (.string x.k)).set_ 1 (.string x.t)).set_ 2 (.int .i64 x.z)).set_ 3 (.int .i64 x.r)
  have hb4 : Below w.heap.size w ((((w2.setCell ⟨w.heap.size + 1, 0, none⟩ (.string x.k)).setCell ⟨w.heap.size + 1, 1, none⟩ (.string x.t)).setCell ⟨w.heap.size + 1, 2, none⟩ (.int .i64 x.z)).setCell ⟨w.heap.size + 1, 3, none⟩ (.int .i64 x.r)) := belB
  generalize hw4 : World.setCell _ _ _ = w4 at *
  have q0 := hS.cell (k := 0) rfl
  have q1 := hS.cell (k := 1) rfl
  have q2 := hS.cell (k := 2) rfl
  have q3 := hS.cell (k := 3) rfl
  exact bodyPost_ret (v := getV (some x)) (by simp [results, Tryz.results27, go_sem, q0, q1, q2, q3, getV]) rfl ⟨rfl, hb4⟩
end Go.Proofs.YtokfclikhfpmhaaGreatDoor
namespace Go.Proofs.YtokfclikhfpmhaaGreatDoor
open Go.RowKit Go.Sort
set_option linter.unusedVariables false
set_option linter.unusedSimpArgs false
set_option maxRecDepth 100000
theorem from_nil (L : List It) : ixFrom L ⟨#[]⟩ = L := by
 unfold ixFrom
 rw [List.filter_eq_self]
 intro y _
 have : ltB y.k ⟨#[]⟩ = false := by
  unfold ltB
  simp
 rw [this]; rfl
theorem take_100 {L : List It} (h : L.length ≤ 40) : takeI 100 (ixFrom L ⟨#[]⟩) = L := by
 rw [from_nil]
 unfold takeI
 rw [List.take_of_length_le]
 simp; omega
theorem few_small {os : List OpI} (hf : fewO os = true) : os.length ≤ 40 ∧ ∀ o ∈ os, o.it.k.size ≤ 300 ∧ o.it.t.size ≤ 300 := by
 unfold fewO at hf
 simp only [Bool.and_eq_true, decide_eq_true_eq, List.all_eq_true] at hf
 refine ⟨hf.2, fun o ho => ?_⟩
 have := hf.1 o ho
 unfold smallI at this
 simpa using this
set_option maxHeartbeats 8000000 in
theorem lawKeeps15 (A : Option Addr) (n c : Nat) (os : List OpI) (key : ByteArray) (q : Int) (w : World) (hA : OpsRead w A n os) (hn : n ≤ 9223372036854775807) (hE : Env w) (hK : Ks w) : Calls Tryz.prog 7 #[.slice A n c, .string key, .int .i64 q] w (Ret w (.bool true)) := by
 have hfw := fun W (hb : Below w.heap.size w W) => few15_any A n c os W (hA.keep hb) hn
 have hsn := fun W (hb : Below w.heap.size w W) => sanity15_any W (Env.keep hE hb) (hK.keep hb)
 have hmd := fun (hf : fewO os = true) W (hb : Below w.heap.size w W) => made15_any A n c os W (hA.keep hb) hf (Env.keep hE hb) (hK.keep hb)
 have hol := hA.len
 have HA := Lib.hid hA
 have HFW := Lib.hid hfw; have HSN := Lib.hid hsn; have HMD := Lib.hid hmd; have HE := Lib.hid hE
 clear hfw hsn hmd hA hE hK
 cases hf : fewO os
 ·rw [hf] at HFW
  clear HMD HA
  go_enter Tryz.func7, Tryz.ntmps7; go_wp2_with (first | (go_at_call 9; refine (HFW.out _ belB).mono ?_; rintro e wf ⟨rfl, hbf⟩) | (go_at_call 10; refine (HSN.out _ belB).mono ?_; rintro e ws ⟨rfl, hbs⟩)); go_ret; exact ⟨rfl, belB⟩
 by_cases h1 : key.size ≤ 300
 rotate_left
 ·have h1b : (300 : Int) < (key.size : Int) := by omega
  rw [hf] at HFW
  clear HMD HA
  go_enter Tryz.func7, Tryz.ntmps7; go_wp2_with (first | (go_at_call 9; refine (HFW.out _ belB).mono ?_; rintro e wf ⟨rfl, hbf⟩) | (go_at_call 10; refine (HSN.out _ belB).mono ?_; rintro e ws ⟨rfl, hbs⟩)); go_ret; exact ⟨rfl, belB⟩
 have h1b : ¬ (300 : Int) < (key.size : Int) := by omega
 obtain ⟨hgd, hsz⟩ := few_good hf
 obtain ⟨hn40, hsm⟩ := few_small hf
 have hmd := HMD.out hf
 unfold MadeP at hmd
 obtain ⟨L, hL⟩ : ∃ L, L = opsS os := ⟨_, rfl⟩
 rw [← hL] at hmd hgd hsz
 rw [hf] at HFW
 have hl40 := hgd.len
 obtain ⟨gk, gt, gz, gr, gb, hg⟩ := getV_form (ixGet L key)
 have hgt := fun P W (h : IxAt W P L) => ixGet_any P L key W h hgd.up
 have hrg := fun B c2 W (h : ItsRead W B L.length L) => rGet15_any B L.length c2 L key W h (by omega)
 rw [hg] at hgt hrg
 have hln := fun P W (h : IxAt W P L) => ixLen_any P L W h
 have hs1 := fun P W (h : IxAt W P L) => ixSize_any P L W h
 have hs2 := fun B c2 W (h : ItsRead W B L.length L) => rSize15_any B L.length c2 L W h (by omega) (fun x hx => valid_z (hgd.ok x hx))
 have hfr := fun P W (h : IxAt W P L) => ixFrom_any P L key q W h hgd.up (by omega)
 have hrf := fun B c2 W (h : ItsRead W B L.length L) => rFrom15_any B L.length c2 L key q W h (by omega)
 have hf0 := fun P W (h : IxAt W P L) => ixFrom_any P L ⟨#[]⟩ 100 W h hgd.up (by omega)
 rw [take_100 hl40] at hf0
 have hlu : (takeI q (ixFrom L key)).length ≤ 1000000 := by
  have h1 : (takeI q (ixFrom L key)).length ≤ (ixFrom L key).length := by unfold takeI; rw [List.length_take]; omega
  have h2 : (ixFrom L key).length ≤ L.length := List.length_filter_le _ _
  omega
 have hv1 := fun x (hx : x ∈ os) W (hb : Below w.heap.size w W) => iValid_any x.it W (by have := hsm x hx; omega) (by have := hsm x hx; omega) (Env.keep HE.out hb)
 have hv2 := fun x (hx : x ∈ os) W => rValid15_any x.it W (by have := hsm x hx; omega) (by have := hsm x hx; omega)
 have HM := Lib.hid hmd; have HGT := Lib.hid hgt; have HRG := Lib.hid hrg; have HLN := Lib.hid hln; have HS1 := Lib.hid hs1; have HS2 := Lib.hid hs2; have HFR := Lib.hid hfr; have HRF := Lib.hid hrf; have HF0 := Lib.hid hf0; have HV1 := Lib.hid hv1; have HV2 := Lib.hid hv2
 clear hmd hgt hrg hln hs1 hs2 hfr hrf hf0 hv1 hv2 HMD hgd hsz hsm hL h1 hf hg HE
 generalize takeI q (ixFrom L key) = RF at *
 generalize ixSize L = sz at *
 go_enter Tryz.func7, Tryz.ntmps7
 go_upto_region 6 with (first | (go_at_call 9; refine (HFW.out _ belB).mono ?_; rintro e wf ⟨rfl, hbf⟩) | (go_at_call 11; refine (HM.out _ belB).mono ?_; rintro e wm ⟨P, B, c2, rfl, hix, hrd, hbm⟩))
 have hX := RowV.new wm 27 [.pointer P]
 have hix4 := hix.keep (balloc (Below.refl _ _) (.cells #[.pointer P] 27))
 have hrd4 := hrd.keep (balloc (Below.refl _ _) (.cells #[.pointer P] 27))
 have hb4 : Below w.heap.size w (wm.alloc (.cells #[.pointer P] 27)) := balloc belB _
 generalize hw4 : wm.alloc (.cells #[.pointer P] 27) = w4 at *
 generalize wm.heap.size = g at *
 have HIX := Lib.hid hix4; have HRD := Lib.hid hrd4
 clear hw4 hix4 hrd4 hix hrd hbm hbf HM HFW
 have x0 := hX.cell (k := 0) rfl
 go_upto_region 7 with (go_at_call 27; refine (HGT.out P _ HIX.out).mono ?_; rintro e wg ⟨rfl, hbg⟩; clear HGT)
 have hY := RowV.new wg 41 [.string gk, .string gt, .int .i64 gz, .int .i64 gr]
 have hb5 : Below w4.heap.size w4 (wg.alloc (.cells #[.string gk, .string gt, .int .i64 gz, .int .i64 gr] 41)) := balloc hbg _
 generalize hw5 : wg.alloc (.cells #[.string gk, .string gt, .int .i64 gz, .int .i64 gr] 41) = w5 at *
 generalize wg.heap.size = g5 at *
 clear hw5 hbg x0
 have hX5 := hX.keep hb5
 go_upto_region 8 with (go_at_call 28; refine (HRG.out B c2 _ (HRD.out.keep hb5)).mono ?_; rintro e wh ⟨rfl, hbh⟩; clear HRG)
 have hZ := RowV.new wh 41 [.string gk, .string gt, .int .i64 gz, .int .i64 gr]
 have hb6 : Below w4.heap.size w4 (wh.alloc (.cells #[.string gk, .string gt, .int .i64 gz, .int .i64 gr] 41)) := balloc (bstep hb5 hbh) _
 have hX6 := (hX5.keep hbh).alloc (.cells #[.string gk, .string gt, .int .i64 gz, .int .i64 gr] 41)
 have hY6 := (hY.keep hbh).alloc (.cells #[.string gk, .string gt, .int .i64 gz, .int .i64 gr] 41)
 generalize hw6 : wh.alloc (.cells #[.string gk, .string gt, .int .i64 gz, .int .i64 gr] 41) = w6 at *
 generalize wh.heap.size = g6 at *
 clear hw6 hbh hb5 hX5 hX hY
 have HX6 := Lib.hid hX6; have HY6 := Lib.hid hY6; have HZ6 := Lib.hid hZ
 clear hX6 hY6 hZ
 have hb46 := bstep hb4 hb6
 go_wp2
 go_loopw [14] (fun vi wr => ∃ k : Nat, vi = .int .i64 k ∧ k ≤ n ∧ Below w6.heap.size w6 wr) (fun i _ => n - (intOf i).toNat)
 case atStart => exact ⟨0, rfl, Nat.zero_le _, Below.refl _ _⟩
 case round =>
  obtain ⟨k, rfl, hk, hbr⟩ := hrel
  have hbr4 := bstep hb46 hbr
  by_cases hlt : k < n
  ·obtain ⟨x, hx⟩ : ∃ x, os[k]? = some x := ⟨_, List.getElem?_eq_getElem (by omega)⟩
   obtain ⟨b, o, rfl, c0, c1, c2', c3, c4⟩ := (HA.out.keep hbr4).cells hx
   have hk0 : (0 : Int) ≤ (k : Int) := by omega
   have hk1 : (k : Int) < (n : Int) := by omega
   have hv1 := fun W (hb : Below wr.heap.size wr W) => HV1.out x (List.mem_of_getElem? hx) W (bstep hbr4 hb)
   have hv2 := fun W (hb : Below wr.heap.size wr W) => HV2.out x (List.mem_of_getElem? hx) W
   have d2 : wr.cell? ⟨b, o + k * 5 + 1 + 1, none⟩ = some (.string x.it.t) := c2'
   have d3 : wr.cell? ⟨b, o + k * 5 + 1 + 2, none⟩ = some (.int .i64 x.it.z) := c3
   have d4 : wr.cell? ⟨b, o + k * 5 + 1 + 3, none⟩ = some (.int .i64 x.it.r) := c4
   have k1 := cell_regrown c1; have k2 := cell_regrown d2; have k3 := cell_regrown d3; have k4 := cell_regrown d4
   have V1 := Lib.hid hv1; have V2 := Lib.hid hv2
   clear hv1 hv2 HV1 HV2 hx c0 c2' c3 c4 HX6 HY6 HZ6 HIX HRD HLN HS1 HS2 HFR HRF HF0 HSN HA
   generalize validI x.it = v at *
   go_upto_region 11 with fail
   refine wp_region_quiet_below (by kernel_rfl) (by kernel_rfl) ?_; (repeat (any_goals (first | go_big_quiet_step ((first | first | (with_reducible exact qcalls2 V1.out _ _) | (with_reducible exact qcalls2 V2.out _ _))) | quiet_step ((first | first | (with_reducible exact qcalls2 V1.out _ _) | (with_reducible exact qcalls2 V2.out _ _)))))); refine wpQuiet_nil ?_; intro _ hwq; obtain ⟨⟨dq, osq⟩, hwq⟩ := hwq; subst hwq; have hbq := below_regrown (wr) dq osq; generalize grow (redrawn (wr) dq) osq = wq at *
   have hb9 := bstep hbr hbq
   clear k1 k2 k3 k4 hbq V1 V2
   go_wp2
   exact ⟨⟨k + 1, by go_num, by omega, hb9⟩, by simp [intOf]; omega⟩
  ·obtain rfl : k = n := by omega
   clear HV1 HV2 HA
   have x0 := (HX6.out.keep hbr).cell (k := 0) rfl
   have y0 := (HY6.out.keep hbr).cell (k := 0) rfl
   have y1 := (HY6.out.keep hbr).cell (k := 1) rfl
   have y2 := (HY6.out.keep hbr).cell (k := 2) rfl
   have y3 := (HY6.out.keep hbr).cell (k := 3) rfl
   have z0 := (HZ6.out.keep hbr).cell (k := 0) rfl
   have z1 := (HZ6.out.keep hbr).cell (k := 1) rfl
   have z2 := (HZ6.out.keep hbr).cell (k := 2) rfl
   have z3 := (HZ6.out.keep hbr).cell (k := 3) rfl
   have hi := HIX.out.keep (bstep hb6 hbr)
   have hr := HRD.out.keep (bstep hb6 hbr)
   have HI := Lib.hid hi; have HR := Lib.hid hr
   clear hi hr HIX HRD HX6 HY6 HZ6
   go_wp2_with (first | (go_at_call 10; refine (HSN.out _ hbr4).mono ?_; rintro e ws ⟨rfl, hq1⟩; clear HSN; have x1 := cell_keep hq1 x0) | (go_at_call 25; refine (HLN.out P _ (HI.out.keep hq1)).mono ?_; rintro e wl ⟨rfl, hbl⟩; clear HLN; have hq2 := bstep hq1 hbl; have x2 := cell_keep hq2 x0) | (go_at_call 26; refine (HS1.out P _ (HI.out.keep hq2)).mono ?_; rintro e wl3 ⟨rfl, hbl3⟩; clear HS1; have hq3 := bstep hq2 hbl3) | (go_at_call 31; refine (HS2.out B c2 _ (HR.out.keep hq3)).mono ?_; rintro e wl4 ⟨rfl, hbl4⟩; clear HS2; have hq4 := bstep hq3 hbl4; have x4 := cell_keep hq4 x0; have y10 := cell_keep hq4 y0; have y11 := cell_keep hq4 y1; have y12 := cell_keep hq4 y2; have y13 := cell_keep hq4 y3; have z10 := cell_keep hq4 z0; have z11 := cell_keep hq4 z1; have z12 := cell_keep hq4 z2; have z13 := cell_keep hq4 z3) | (go_at_call 17; refine (HFR.out P _ (HI.out.keep hq4)).mono ?_; rintro e wl5 ⟨A1, a1, rfl, r1, hbl5⟩; clear HFR; have hq5 := bstep hq4 hbl5) | (go_at_call 32; refine (HRF.out B c2 _ (HR.out.keep hq5)).mono ?_; rintro e wl6 ⟨A2, a2, rfl, r2, hbl6⟩; clear HRF; have hq6 := bstep hq5 hbl6; have r3 := r1.keep hbl6; clear r1) | (go_at_call 12; refine (rSame15_eq _ _ _ _ _ _ _ r3 r2 hlu).mono ?_; rintro e wl7 ⟨rfl, hbl7⟩; clear r3 r2; have hq7 := bstep hq6 hbl7; have x7 := cell_keep hq7 x0) | (go_at_call 17; refine (HF0.out P _ (HI.out.keep hq7)).mono ?_; rintro e wl8 ⟨A3, a3, rfl, r4, hbl8⟩; clear HF0; have hq8 := bstep hq7 hbl8; have r5 := HR.out.keep hq8) | (go_at_call 12; refine (rSame15_eq _ _ _ _ _ _ _ r4 r5 (by omega)).mono ?_; rintro e wl9 ⟨rfl, hbl9⟩; clear r4 r5; have hq9 := bstep hq8 hbl9))
   go_ret
   exact ⟨rfl, bstep hbr4 hq9⟩
end Go.Proofs.YtokfclikhfpmhaaGreatDoor
