/- An index: Len, Size, Get, Delete. -/
import Derived.Test.YtokfclikhfpmhaaGreatDoorIZ29
namespace Go.Proofs.YtokfclikhfpmhaaGreatDoor
open Go.RowKit Go.Sort
set_option linter.unusedVariables false
set_option linter.unusedSimpArgs false
set_option maxRecDepth 100000
set_option maxHeartbeats 4000000 in
theorem ixGet_any (A : Option Addr) (L : List It) (k : ByteArray) (w : World) (h : IxAt w A L) (hu : UpI L) : Calls Tryz.prog 27 #[.agg #[.pointer A], .string k] w (Ret w (getV (ixGet L k))) := by
 obtain ⟨t, hn, hL, _⟩ := h
 have hc := fun W (hb : Below w.heap.size w W) => treeFind_any k t A W (NodeAt.keep hb hn)
 rw [find_get hL hu k] at hc
 have HF := Lib.hid hc
 clear hc hn hL hu
 have hr0 : RowV ((w.alloc (.cells #[.pointer A] 27)).alloc (.cells #[.string ⟨#[]⟩, .string ⟨#[]⟩, .int .i64 0, .int .i64 0] 41)) (w.heap.size + 1) 41 [.string ⟨#[]⟩, .string ⟨#[]⟩, .int .i64 0, .int .i64 0] := by
  have h := RowV.new (w.alloc (.cells #[.pointer A] 27)) 41 [.string ⟨#[]⟩, .string ⟨#[]⟩, .int .i64 0, .int .i64 0]
  rwa [World.size_alloc] at h
 have HR := Lib.hid hr0
 clear hr0
 cases hg : ixGet L k with
 | none =>
  rw [hg] at HF
  go_enter Tryz.func27, Tryz.ntmps27
  go_upto_region 2 with (go_at_call 58; refine (HF.out _ belB).mono ?_; rintro e w2 ⟨P, rfl, hP, hb2⟩; cases (show P = none from hP))
  have hR := HR.out.keep hb2
  have hbw : Below w.heap.size w w2 := belB
  have r0 := hR.cell (k := 0) rfl
  have r1 := hR.cell (k := 1) rfl
  have r2 := hR.cell (k := 2) rfl
  have r3 := hR.cell (k := 3) rfl
  have f0 := hR.free 0
  have f1 := hR.free 1
  have f2 := hR.free 2
  have f3 := hR.free 3
  clear hb2 HR hP
  go_wp2
  have hS := (((hR.set_ 0 (.string ⟨#[]⟩)).set_ 1 (.string ⟨#[]⟩)).set_ 2 (.int .i64 0)).set_ 3 (.int .i64 0)
  have hb4 : Below w.heap.size w ((((w2.setCell ⟨w.heap.size + 1, 0, none⟩ (.string ⟨#[]⟩)).setCell ⟨w.heap.size + 1, 1, none⟩ (.string ⟨#[]⟩)).setCell ⟨w.heap.size + 1, 2, none⟩ (.int .i64 0)).setCell ⟨w.heap.size + 1, 3, none⟩ (.int .i64 0)) := belB
  generalize hw4 : World.setCell _ _ _ = w4 at *
  have q0 := hS.cell (k := 0) rfl
  have q1 := hS.cell (k := 1) rfl
  have q2 := hS.cell (k := 2) rfl
  have q3 := hS.cell (k := 3) rfl
  exact bodyPost_ret (v := getV none) (by simp [results, Tryz.results27, go_sem, q0, q1, q2, q3, getV]) rfl ⟨rfl, hb4⟩
 | some x =>
  rw [hg] at HF
  go_enter Tryz.func27, Tryz.ntmps27
  go_upto_region 2 with (go_at_call 58; refine (HF.out _ belB).mono ?_; rintro e w2 ⟨P, rfl, hP, hb2⟩)
  obtain ⟨p, l, r, hnd⟩ := hP
  obtain ⟨b, L0, R0, rfl, _, _, _, hr, _⟩ := hnd.facts
  have c2 := hr.cell (k := 2) rfl
  have c3 := hr.cell (k := 3) rfl
  have c4 := hr.cell (k := 4) rfl
  have c5 := hr.cell (k := 5) rfl
  have hR := HR.out.keep hb2
  have hbw : Below w.heap.size w w2 := belB
  have r0 := hR.cell (k := 0) rfl
  have r1 := hR.cell (k := 1) rfl
  have r2 := hR.cell (k := 2) rfl
  have r3 := hR.cell (k := 3) rfl
  have f0 := hR.free 0
  have f1 := hR.free 1
  have f2 := hR.free 2
  have f3 := hR.free 3
  clear hb2 HR hr hnd
  go_wp2
  have hS := (((hR.set_ 0 (.string x.k)).set_ 1 (.string x.t)).set_ 2 (.int .i64 x.z)).set_ 3 (.int .i64 x.r)
  have hb4 : Below w.heap.size w ((((w2.setCell ⟨w.heap.size + 1, 0, none⟩ (.string x.k)).setCell ⟨w.heap.size + 1, 1, none⟩ (.string x.t)).setCell ⟨w.heap.size + 1, 2, none⟩ (.int .i64 x.z)).setCell ⟨w.heap.size + 1, 3, none⟩ (.int .i64 x.r)) := belB
  generalize hw4 : World.setCell _ _ _ = w4 at *
  have q0 := hS.cell (k := 0) rfl
  have q1 := hS.cell (k := 1) rfl
  have q2 := hS.cell (k := 2) rfl
  have q3 := hS.cell (k := 3) rfl
  exact bodyPost_ret (v := getV (some x)) (by simp [results, Tryz.results27, go_sem, q0, q1, q2, q3, getV]) rfl ⟨rfl, hb4⟩
end Go.Proofs.YtokfclikhfpmhaaGreatDoor
namespace Go.Proofs.YtokfclikhfpmhaaGreatDoor
open Go.RowKit Go.Sort
set_option linter.unusedVariables false
set_option linter.unusedSimpArgs false
set_option maxRecDepth 100000
theorem putS_small {L : List It} (x : It) (h : L.length ≤ 1000) : ixPutS L x = if validI x then (ixPut L x, 0) else (L, 1) := by
 unfold ixPutS
 rw [show decide (L.length = 1048576) = false by simp; omega, Bool.and_false]
 rfl
theorem del_put {L : List It} {x : It} {k : ByteArray} (h : x.k ≠ k) : ixDel (ixPut L x) k = ixPut (ixDel L k) x := by
 unfold ixDel ixPut
 rw [List.filter_append, List.filter_cons_of_pos (by simp [h])]
 simp only [List.filter_filter]
 congr 1
 ·exact filter_eq L fun y _ => Bool.and_comm _ _
 ·congr 1
  exact filter_eq L fun y _ => Bool.and_comm _ _
theorem putS_del {L : List It} {x : It} {k : ByteArray} (hl : L.length ≤ 1000) (h : x.k ≠ k) : ixDel (ixPutS L x).1 k = (ixPutS (ixDel L k) x).1 := by
 have hd : (ixDel L k).length ≤ 1000 := Nat.le_trans (List.length_filter_le _ _) hl
 rw [putS_small x hl, putS_small x hd]
 split
 ·exact del_put h
 ·rfl
theorem lt_cons {x y : It} {l : List It} (hu : UpI (y :: l)) (h : ltB x.k y.k = true) : ∀ z ∈ y :: l, ltB x.k z.k = true := by
 intro z hz
 rcases List.mem_cons.1 hz with rfl | hz
 ·exact h
 ·exact ltB_tr h ((up_cons hu).2 z hz)
theorem halves {x : It} : ∀ {L : List It}, UpI L → (∀ y ∈ L, y.k ≠ x.k) → L.filter (fun y => ltB y.k x.k) ++ L.filter (fun y => ltB x.k y.k) = L
 | [], _, _ => rfl
 | y :: l, hu, hn => by
  have hy := hn y (List.mem_cons_self ..)
  rcases ltB_tot y.k x.k with h | h | h
  ·rw [List.filter_cons_of_pos (p := fun z : It => ltB z.k x.k) h, List.filter_cons_of_neg (p := fun z : It => ltB x.k z.k) (by rw [ltB_asym h]; simp), List.cons_append, halves (up_cons hu).1 fun z hz => hn z (List.mem_cons_of_mem _ hz)]
  ·exact absurd h hy
  ·have ha := lt_cons hu h
   rw [List.filter_eq_nil_iff.2 fun z hz => by rw [ltB_asym (ha z hz)]; simp, List.nil_append]
   exact List.filter_eq_self.2 ha
theorem put_mem : ∀ {L : List It} {x : It}, UpI L → x ∈ L → ixPut L x = L
 | y :: l, x, hu, hx => by
  unfold ixPut
  rcases List.mem_cons.1 hx with rfl | hx
  ·have ha := (up_cons hu).2
   rw [List.filter_cons_of_neg (by rw [ltB_irr]; simp), List.filter_cons_of_neg (by rw [ltB_irr]; simp)]
   rw [List.filter_eq_nil_iff.2 fun z hz => by rw [ltB_asym (ha z hz)]; simp, List.nil_append]
   rw [List.filter_eq_self.2 ha]
  ·have h := (up_cons hu).2 x hx
   rw [List.filter_cons_of_pos (p := fun z : It => ltB z.k x.k) h, List.filter_cons_of_neg (p := fun z : It => ltB x.k z.k) (by rw [ltB_asym h]; simp), List.cons_append]
   have := put_mem (up_cons hu).1 hx
   unfold ixPut at this
   rw [this]
theorem put_del (L : List It) (x : It) : ixPut (ixDel L x.k) x = ixPut L x := by
 unfold ixDel ixPut
 simp only [List.filter_filter]
 congr 1
 ·exact filter_eq L fun y _ => by
   cases h : ltB y.k x.k
   ·rfl
   ·simp [ltB_ne h]
 ·congr 1
  exact filter_eq L fun y _ => by
   cases h : ltB x.k y.k
   ·rfl
   ·simp [(ltB_ne h).symm]
theorem get_mem {L : List It} {k : ByteArray} {x : It} (h : ixGet L k = some x) : x ∈ L ∧ x.k = k := ⟨List.mem_of_find?_eq_some h, by simpa using List.find?_some h⟩
theorem get_none {L : List It} {k : ByteArray} : ixGet L k = none ↔ ∀ y ∈ L, y.k ≠ k := by
 unfold ixGet
 rw [List.find?_eq_none]
 simp
theorem get_del (L : List It) (k : ByteArray) : ixGet (ixDel L k) k = none := get_none.2 fun y hy => by simpa [ixDel] using (List.mem_filter.1 hy).2
theorem get_put (L : List It) (x : It) : ixGet (ixPut L x) x.k = some x := by
 unfold ixGet ixPut
 rw [List.find?_append, List.find?_eq_none.2 fun y hy => by simp [ltB_ne (List.mem_filter.1 hy).2]]
 simp
theorem del_put_new {L : List It} {x : It} (hu : UpI L) (h : ixGet L x.k = none) : ixDel (ixPut L x) x.k = L := by
 have hn := get_none.1 h
 unfold ixDel ixPut
 rw [List.filter_append, List.filter_cons_of_neg (by simp)]
 rw [List.filter_eq_self.2 fun y (hy : y ∈ L.filter fun z => ltB z.k x.k) => by simp [hn y (List.mem_filter.1 hy).1], List.filter_eq_self.2 fun y (hy : y ∈ L.filter fun z => ltB x.k z.k) => by simp [hn y (List.mem_filter.1 hy).1]]
 exact halves hu hn
theorem put_back {L : List It} {x : It} {k : ByteArray} (hu : UpI L) (h : ixGet L k = some x) : ixPut (ixDel L k) x = L := by
 obtain ⟨hm, rfl⟩ := get_mem h
 rw [put_del, put_mem hu hm]
end Go.Proofs.YtokfclikhfpmhaaGreatDoor
namespace Go.Proofs.YtokfclikhfpmhaaGreatDoor
open Go.RowKit Go.Sort
set_option linter.unusedVariables false
set_option linter.unusedSimpArgs false
set_option maxRecDepth 100000
theorem from_nil (L : List It) : ixFrom L ⟨#[]⟩ = L := by
 unfold ixFrom
 rw [List.filter_eq_self]
 intro y _
 have : ltB y.k ⟨#[]⟩ = false := by
  unfold ltB
  simp
 rw [this]; rfl
theorem few_small {os : List OpI} (hf : fewO os = true) : os.length ≤ 40 ∧ ∀ o ∈ os, o.it.k.size ≤ 300 ∧ o.it.t.size ≤ 300 := by
 unfold fewO at hf
 simp only [Bool.and_eq_true, decide_eq_true_eq, List.all_eq_true] at hf
 refine ⟨hf.2, fun o ho => ?_⟩
 have := hf.1 o ho
 unfold smallI at this
 simpa using this
end Go.Proofs.YtokfclikhfpmhaaGreatDoor
namespace Go.Proofs.YtokfclikhfpmhaaGreatDoor
open Go.RowKit Go.Sort
set_option linter.unusedVariables false
set_option linter.unusedSimpArgs false
set_option maxRecDepth 100000
structure Ord (w : World) (g : Nat) (a b : It) (P : Option Addr) (L : List It) (W : World) : Prop where
 ra : RowV W w.heap.size 41 a.vals
 rb : RowV W (w.heap.size + 1) 41 b.vals
 rx : RowV W g 27 [.pointer P]
 ix : IxAt W P L
 bw : Below w.heap.size w W
 hg : w.heap.size + 2 ≤ g
theorem Ord.keep {w W W' : World} {g : Nat} {a b : It} {P : Option Addr} {L : List It} (h : Ord w g a b P L W) (hb : Below W.heap.size W W') : Ord w g a b P L W' :=
 ⟨h.ra.keep hb, h.rb.keep hb, h.rx.keep hb, h.ix.keep hb, bstep h.bw hb, h.hg⟩
theorem Ord.far {w W : World} {g g' : Nat} {a b : It} {P Q : Option Addr} {L : List It} (h : Ord w g a b P L W) (k : RowV W g' 27 [.pointer Q]) (hne : g < g') (v : Value) : Ord w g a b P L (W.setCell ⟨g', 0, none⟩ v) := by
 have := h.hg
 exact ⟨h.ra.far _ _ (by simp; omega), h.rb.far _ _ (by simp; omega), h.rx.far _ _ (by simp; omega), h.ix.far k (by decide) 0 v, h.bw.setCell (by simp; omega) _, h.hg⟩
theorem Ord.cells {w W : World} {g : Nat} {a b : It} {P : Option Addr} {L : List It} (h : Ord w g a b P L W) :
  W.cell? ⟨w.heap.size, 0, none⟩ = some (.string a.k) ∧ W.cell? ⟨w.heap.size, 1, none⟩ = some (.string a.t) ∧ W.cell? ⟨w.heap.size, 2, none⟩ = some (.int .i64 a.z) ∧ W.cell? ⟨w.heap.size, 3, none⟩ = some (.int .i64 a.r) ∧ W.cell? ⟨w.heap.size + 1, 0, none⟩ = some (.string b.k) ∧ W.cell? ⟨g, 0, none⟩ = some (.pointer P) :=
 ⟨h.ra.cell (k := 0) rfl, h.ra.cell (k := 1) rfl, h.ra.cell (k := 2) rfl, h.ra.cell (k := 3) rfl, h.rb.cell (k := 0) rfl, h.rx.cell (k := 0) rfl⟩
theorem take_hun {L : List It} (h : L.length ≤ 100) : takeI 100 (ixFrom L ⟨#[]⟩) = L := by
 rw [from_nil]
 unfold takeI
 rw [List.take_of_length_le]
 simp; omega
theorem pair_read {W : World} {g : Nat} {a b : It} (h : RowV W g 57 [.bool false, .string a.k, .string a.t, .int .i64 a.z, .int .i64 a.r, .bool false, .string b.k, .string b.t, .int .i64 b.z, .int .i64 b.r]) : OpsRead W (some ⟨g, 0, none⟩) 2 [⟨false, a⟩, ⟨false, b⟩] :=
 ⟨rfl, rfl, fun _ => ⟨g, 0, rfl, fun j u hu => by rw [Nat.zero_add]; exact h.cell hu⟩⟩
set_option maxHeartbeats 8000000 in
theorem lawOrder15 (A : Option Addr) (n c : Nat) (os : List OpI) (a b : It) (w : World) (hA : OpsRead w A n os) (hn : n ≤ 9223372036854775807) (hE : Env w) (hK : Ks w) : Calls Tryz.prog 6 #[.slice A n c, .agg #[.string a.k, .string a.t, .int .i64 a.z, .int .i64 a.r], .agg #[.string b.k, .string b.t, .int .i64 b.z, .int .i64 b.r]] w (Ret w (.bool true)) := by
 have hfw := fun W (hb : Below w.heap.size w W) => few15_any A n c os W (hA.keep hb) hn
 have hf2 := fun W g (h : RowV W g 57 [.bool false, .string a.k, .string a.t, .int .i64 a.z, .int .i64 a.r, .bool false, .string b.k, .string b.t, .int .i64 b.z, .int .i64 b.r]) => few15_any (some ⟨g, 0, none⟩) 2 2 [⟨false, a⟩, ⟨false, b⟩] W (pair_read h) (by decide)
 have hsn := fun W (hb : Below w.heap.size w W) => sanity15_any W (Env.keep hE hb) (hK.keep hb)
 have hmd := fun (hf : fewO os = true) W (hb : Below w.heap.size w W) => made15_any A n c os W (hA.keep hb) hf (Env.keep hE hb) (hK.keep hb)
 obtain ⟨V2, hV2⟩ : ∃ V, V = fewO [⟨false, a⟩, ⟨false, b⟩] := ⟨_, rfl⟩
 rw [← hV2] at hf2
 have HFW := Lib.hid hfw; have HF2 := Lib.hid hf2; have HSN := Lib.hid hsn; have HMD := Lib.hid hmd; have HE := Lib.hid hE; have HK := Lib.hid hK; have HV2 := Lib.hid hV2
 clear hfw hf2 hsn hmd hA hE hK hV2
 obtain ⟨W1, hW1⟩ : ∃ W1, W1 = (w.alloc (.cells #[.string a.k, .string a.t, .int .i64 a.z, .int .i64 a.r] 41)).alloc (.cells #[.string b.k, .string b.t, .int .i64 b.z, .int .i64 b.r] 41) := ⟨_, rfl⟩
 have hB1 : Below w.heap.size w W1 := by rw [hW1]; exact belB
 have hra : RowV W1 w.heap.size 41 a.vals := by rw [hW1]; exact (RowV.new w _ a.vals).alloc _
 have hrb : RowV W1 (w.heap.size + 1) 41 b.vals := by rw [hW1]; have h := RowV.new (w.alloc (.cells #[.string a.k, .string a.t, .int .i64 a.z, .int .i64 a.r] 41)) 41 b.vals; rwa [World.size_alloc] at h
 go_enter Tryz.func6, Tryz.ntmps6
 go_upto_region 1 with fail
 rw [← hW1]
 clear hW1
 cases hf : fewO os
 ·rw [hf] at HFW
  clear HMD HF2 HV2
  go_wp2_with (first | (go_at_call 9; refine (HF2.out (wf.alloc (.cells #[.bool false, .string a.k, .string a.t, .int .i64 a.z, .int .i64 a.r, .bool false, .string b.k, .string b.t, .int .i64 b.z, .int .i64 b.r] 57)) wf.heap.size (RowV.new wf 57 [.bool false, .string a.k, .string a.t, .int .i64 a.z, .int .i64 a.r, .bool false, .string b.k, .string b.t, .int .i64 b.z, .int .i64 b.r])).mono ?_; clear HF2; rintro e wf2 ⟨rfl, hbf2⟩; clear a0 b0; have a0 := (RowV.keep (RowV.alloc (hra.keep hbf) _) hbf2).cell (k := 0) rfl; have b0 := (RowV.keep (RowV.alloc (hrb.keep hbf) _) hbf2).cell (k := 0) rfl) | (go_at_call 9; refine (HFW.out _ hB1).mono ?_; clear HFW; rintro e wf ⟨rfl, hbf⟩; have a0 := (hra.keep hbf).cell (k := 0) rfl; have a1 := (hra.keep hbf).cell (k := 1) rfl; have a2 := (hra.keep hbf).cell (k := 2) rfl; have a3 := (hra.keep hbf).cell (k := 3) rfl; have b0 := (hrb.keep hbf).cell (k := 0) rfl; have b1 := (hrb.keep hbf).cell (k := 1) rfl; have b2 := (hrb.keep hbf).cell (k := 2) rfl; have b3 := (hrb.keep hbf).cell (k := 3) rfl) | (go_at_call 10; refine (HSN.out _ belB).mono ?_; rintro e ws ⟨rfl, hbs⟩)); go_ret; exact ⟨rfl, belB⟩
 rw [hf] at HFW
 cases V2
 ·clear HMD HV2
  go_wp2_with (first | (go_at_call 9; refine (HF2.out (wf.alloc (.cells #[.bool false, .string a.k, .string a.t, .int .i64 a.z, .int .i64 a.r, .bool false, .string b.k, .string b.t, .int .i64 b.z, .int .i64 b.r] 57)) wf.heap.size (RowV.new wf 57 [.bool false, .string a.k, .string a.t, .int .i64 a.z, .int .i64 a.r, .bool false, .string b.k, .string b.t, .int .i64 b.z, .int .i64 b.r])).mono ?_; clear HF2; rintro e wf2 ⟨rfl, hbf2⟩; clear a0 b0; have a0 := (RowV.keep (RowV.alloc (hra.keep hbf) _) hbf2).cell (k := 0) rfl; have b0 := (RowV.keep (RowV.alloc (hrb.keep hbf) _) hbf2).cell (k := 0) rfl) | (go_at_call 9; refine (HFW.out _ hB1).mono ?_; clear HFW; rintro e wf ⟨rfl, hbf⟩; have a0 := (hra.keep hbf).cell (k := 0) rfl; have a1 := (hra.keep hbf).cell (k := 1) rfl; have a2 := (hra.keep hbf).cell (k := 2) rfl; have a3 := (hra.keep hbf).cell (k := 3) rfl; have b0 := (hrb.keep hbf).cell (k := 0) rfl; have b1 := (hrb.keep hbf).cell (k := 1) rfl; have b2 := (hrb.keep hbf).cell (k := 2) rfl; have b3 := (hrb.keep hbf).cell (k := 3) rfl) | (go_at_call 10; refine (HSN.out _ belB).mono ?_; rintro e ws ⟨rfl, hbs⟩)); go_ret; exact ⟨rfl, belB⟩
 by_cases hk : a.k = b.k
 ·have hq : (a.k.toList == b.k.toList) = true := by rw [hk]; simp
  clear HMD HV2 hk
  go_wp2_with (first | (go_at_call 9; refine (HF2.out (wf.alloc (.cells #[.bool false, .string a.k, .string a.t, .int .i64 a.z, .int .i64 a.r, .bool false, .string b.k, .string b.t, .int .i64 b.z, .int .i64 b.r] 57)) wf.heap.size (RowV.new wf 57 [.bool false, .string a.k, .string a.t, .int .i64 a.z, .int .i64 a.r, .bool false, .string b.k, .string b.t, .int .i64 b.z, .int .i64 b.r])).mono ?_; clear HF2; rintro e wf2 ⟨rfl, hbf2⟩; clear a0 b0; have a0 := (RowV.keep (RowV.alloc (hra.keep hbf) _) hbf2).cell (k := 0) rfl; have b0 := (RowV.keep (RowV.alloc (hrb.keep hbf) _) hbf2).cell (k := 0) rfl) | (go_at_call 9; refine (HFW.out _ hB1).mono ?_; clear HFW; rintro e wf ⟨rfl, hbf⟩; have a0 := (hra.keep hbf).cell (k := 0) rfl; have a1 := (hra.keep hbf).cell (k := 1) rfl; have a2 := (hra.keep hbf).cell (k := 2) rfl; have a3 := (hra.keep hbf).cell (k := 3) rfl; have b0 := (hrb.keep hbf).cell (k := 0) rfl; have b1 := (hrb.keep hbf).cell (k := 1) rfl; have b2 := (hrb.keep hbf).cell (k := 2) rfl; have b3 := (hrb.keep hbf).cell (k := 3) rfl) | (go_at_call 10; refine (HSN.out _ belB).mono ?_; rintro e ws ⟨rfl, hbs⟩)); go_ret; exact ⟨rfl, belB⟩
 have hq : (a.k.toList == b.k.toList) = false := by rw [beq_dec]; simpa using hk
 obtain ⟨_, hsm⟩ := few_small HV2.out.symm
 have hsa := hsm ⟨false, a⟩ (by simp)
 obtain ⟨hgd, hsz⟩ := few_good hf
 have hmd := HMD.out hf
 unfold MadeP at hmd
 obtain ⟨L, hL⟩ : ∃ L, L = opsS os := ⟨_, rfl⟩
 rw [← hL] at hmd hgd hsz
 have hu := hgd.up
 have hl40 := hgd.len
 have hput := putS_small a (show L.length ≤ 1000 by omega)
 have hlu : UpI (ixPutS L a).1 := by rw [hput]; split <;> first | exact up_put _ hu | exact hu
 have hll : (ixPutS L a).1.length ≤ 41 := by
  rw [hput]
  split
  ·have := ixPut_len L a hu
   show (ixPut L a).length ≤ 41
   rw [this]; split <;> omega
  ·show L.length ≤ 41; omega
 have hqd := putS_del (L := L) (x := a) (k := b.k) (by omega) hk
 have hdl : (ixDel L b.k).length ≤ 40 := Nat.le_trans (List.length_filter_le _ _) hl40
 have hml : (ixDel (ixPutS L a).1 b.k).length ≤ 41 := Nat.le_trans (List.length_filter_le _ _) hll
 have c6 := fun P W (h : IxAt W P L) (hb : Below w.heap.size w W) => ixPut_any P L a W h hu (by omega) (by have := hsa.1; simp at this; omega) (by have := hsa.2; simp at this; omega) (Env.keep HE.out hb) (HK.out.keep hb)
 have c7 := fun P W (h : IxAt W P (ixPutS L a).1) => ixDelete_any P _ b.k W h hlu
 have c8 := fun P W (h : IxAt W P L) => ixDelete_any P L b.k W h hu
 have c9 := fun P W (h : IxAt W P (ixDel L b.k)) (hb : Below w.heap.size w W) => ixPut_any P _ a W h (up_del _ hu) (by omega) (by have := hsa.1; simp at this; omega) (by have := hsa.2; simp at this; omega) (Env.keep HE.out hb) (HK.out.keep hb)
 have c10 := fun P W (h : IxAt W P (ixDel (ixPutS L a).1 b.k)) => ixFrom_any P _ ⟨#[]⟩ 100 W h (up_del _ hlu) (by omega)
 rw [take_hun (by omega)] at c10
 have cL := fun P W (h : IxAt W P L) => ixFrom_any P _ ⟨#[]⟩ 100 W h hu (by omega)
 rw [take_hun (by omega)] at cL
 unfold IxPutP at c6 c9
 rw [← hqd] at c9
 unfold DelPost at c7 c8
 have HPUT := Lib.hid hput; clear hput; have C18 := Lib.hid c6; have HSZ := Lib.hid hsz; have HGD := Lib.hid hgd; have C6 := Lib.hid c6; have C7 := Lib.hid c7; have C8 := Lib.hid c8; have C9 := Lib.hid c9; have C10 := Lib.hid c10; have CL := Lib.hid cL; have HM := Lib.hid hmd
 clear c6 c7 c8 c9 c10 cL hmd HMD HV2 hsm hgd hsz hL hf hlu hll hqd hdl hk
 go_upto_region 6 with (first | (go_at_call 9; refine (HF2.out (wf.alloc (.cells #[.bool false, .string a.k, .string a.t, .int .i64 a.z, .int .i64 a.r, .bool false, .string b.k, .string b.t, .int .i64 b.z, .int .i64 b.r] 57)) wf.heap.size (RowV.new wf 57 [.bool false, .string a.k, .string a.t, .int .i64 a.z, .int .i64 a.r, .bool false, .string b.k, .string b.t, .int .i64 b.z, .int .i64 b.r])).mono ?_; clear HF2; rintro e wf2 ⟨rfl, hbf2⟩; clear a0 b0; have a0 := (RowV.keep (RowV.alloc (hra.keep hbf) _) hbf2).cell (k := 0) rfl; have b0 := (RowV.keep (RowV.alloc (hrb.keep hbf) _) hbf2).cell (k := 0) rfl) | (go_at_call 9; refine (HFW.out _ hB1).mono ?_; clear HFW; rintro e wf ⟨rfl, hbf⟩; have a0 := (hra.keep hbf).cell (k := 0) rfl; have a1 := (hra.keep hbf).cell (k := 1) rfl; have a2 := (hra.keep hbf).cell (k := 2) rfl; have a3 := (hra.keep hbf).cell (k := 3) rfl; have b0 := (hrb.keep hbf).cell (k := 0) rfl; have b1 := (hrb.keep hbf).cell (k := 1) rfl; have b2 := (hrb.keep hbf).cell (k := 2) rfl; have b3 := (hrb.keep hbf).cell (k := 3) rfl) | (go_at_call 11; refine (HM.out _ belB).mono ?_; clear HM; rintro e wm ⟨P, B, c2, rfl, hix, -, hbm⟩))
 have hO : Ord w wm.heap.size a b P L (wm.alloc (.cells #[.pointer P] 27)) := by
  have h1 : Below W1.heap.size W1 wm := belB
  have h2 := hrb.keep h1
  exact ⟨(hra.keep h1).alloc _, h2.alloc _, RowV.new wm 27 [.pointer P], hix.keep (balloc (Below.refl _ _) _), balloc (bstep hB1 h1) _, h2.lt⟩
 generalize hw4 : wm.alloc (.cells #[.pointer P] 27) = w4 at *
 generalize wm.heap.size = g at *
 clear hw4 hix hbm hbf hbf2 hra hrb hB1 a0 a1 a2 a3 b0 b1 b2 b3
 have ⟨a0, a1, a2, a3, b0, x0⟩ := hO.cells
 go_upto_region 7 with (go_at_call 24; refine (C6.out P _ hO.ix hO.bw).mono ?_; rintro e wp ⟨P1, rfl, hi1, hbp⟩; clear C6)
 have hP := RowV.new wp 27 [.pointer P1]
 have hO5 := (hO.keep hbp).keep (balloc (Below.refl _ _) (.cells #[.pointer P1] 27))
 have hgp : g < wp.heap.size := (hO.keep hbp).rx.lt
 have hi5 := hi1.keep (balloc (Below.refl _ _) (.cells #[.pointer P1] 27))
 generalize hw5 : wp.alloc (.cells #[.pointer P1] 27) = w5 at *
 generalize wp.heap.size = gp at *
 clear hw5 hi1 hbp hO a0 a1 a2 a3 b0 x0
 have ⟨a0, a1, a2, a3, b0, x0⟩ := hO5.cells
 have p0 := hP.cell (k := 0) rfl
 go_upto_region 8 with (go_at_call 23; refine (C7.out P1 _ hi5).mono ?_; rintro e wd ⟨P2, rfl, hi2, hbd⟩; clear C7; have hPd := hP.keep hbd; have pf := hPd.free 0; have pe := hPd.cell (k := 0) rfl)
 have hO6 := (hO5.keep hbd).far hPd hgp (.pointer P2)
 have hP6 : RowV (wd.setCell ⟨gp, 0, none⟩ (.pointer P2)) gp 27 [.pointer P2] := hPd.set_ 0 _
 have hi6 := hi2.far hPd (by decide) 0 (.pointer P2)
 generalize hw6 : wd.setCell ⟨gp, 0, none⟩ (.pointer P2) = w6 at *
 clear hw6 hi2 hPd pf pe hbd hP hi5 hO5 a0 a1 a2 a3 b0 x0 p0
 have ⟨a0, a1, a2, a3, b0, x0⟩ := hO6.cells
 go_upto_region 9 with (go_at_call 23; refine (C8.out P _ hO6.ix).mono ?_; rintro e wq ⟨Q1, rfl, hj1, hbq⟩; clear C8)
 have hQ := RowV.new wq 27 [.pointer Q1]
 have hB7 : Below w6.heap.size w6 (wq.alloc (.cells #[.pointer Q1] 27)) := balloc hbq _
 have hO7 := hO6.keep hB7
 have hP7 := hP6.keep hB7
 have hi7 := hi6.keep hB7
 have hj7 := hj1.keep (balloc (Below.refl _ _) (.cells #[.pointer Q1] 27))
 have hgq : g < wq.heap.size := (hO6.keep hbq).rx.lt
 have hpq : gp < wq.heap.size := (hP6.keep hbq).lt
 generalize hw7 : wq.alloc (.cells #[.pointer Q1] 27) = w7 at *
 generalize wq.heap.size = gq at *
 clear hw7 hB7 hj1 hbq hi6 hP6 hO6 a0 a1 a2 a3 b0 x0
 have ⟨a0, a1, a2, a3, b0, x0⟩ := hO7.cells
 have q0 := hQ.cell (k := 0) rfl
 go_upto_region 10 with (go_at_call 24; refine (C9.out Q1 _ hj7 hO7.bw).mono ?_; rintro e wr ⟨Q2, rfl, hj2, hbr⟩; clear C9; have hQr := hQ.keep hbr; have pf := hQr.free 0; have pe := hQr.cell (k := 0) rfl)
 have hO8 := (hO7.keep hbr).far hQr hgq (.pointer Q2)
 have hP8 := (hP7.keep hbr).far ⟨gq, 0, none⟩ (.pointer Q2) (by simp; omega)
 have hQ8 : RowV (wr.setCell ⟨gq, 0, none⟩ (.pointer Q2)) gq 27 [.pointer Q2] := hQr.set_ 0 _
 have hi8 := (hi7.keep hbr).far hQr (by decide) 0 (.pointer Q2)
 have hj8 := hj2.far hQr (by decide) 0 (.pointer Q2)
 generalize hw8 : wr.setCell ⟨gq, 0, none⟩ (.pointer Q2) = w8 at *
 clear hw8 hj2 hQr pf pe hbr hQ hj7 hi7 hP7 hO7 a0 a1 a2 a3 b0 x0 q0
 have p0 := hP8.cell (k := 0) rfl
 have q0 := hQ8.cell (k := 0) rfl
 have HI8 := Lib.hid hi8; have HJ8 := Lib.hid hj8; have HO8 := Lib.hid hO8
 clear hi8 hj8 hO8 hP8 hQ8
 go_cut [87] (fun s87 wx => s87 = .bool false ∧ Below w8.heap.size w8 wx)
 case first =>
  go_region_held3 (fun w' => w'.cell? ⟨gp, 0, none⟩ = some (.pointer P2) ∧ w'.cell? ⟨gq, 0, none⟩ = some (.pointer Q2) ∧ Below w8.heap.size w8 w')
   (first | (go_split_ands; refine (fun (hB : Below w8.heap.size w8 _) => (⟨cell_keep hB p0, cell_keep hB q0, hB⟩ : _ ∧ _ ∧ _)) ?_; (repeat (first | exact .refl _ _ | assumption | refine .drew ?_ | refine balloc ?_ _ | refine bdrewN ?_ _ | refine .setCell ?_ (by simp <;> omega) _ | refine bstep ?_ (by assumption)))) | (refine (fun (hB : Below w8.heap.size w8 _) => (⟨cell_keep hB p0, cell_keep hB q0, hB⟩ : _ ∧ _ ∧ _)) ?_; (repeat (first | exact .refl _ _ | assumption | refine .drew ?_ | refine balloc ?_ _ | refine bdrewN ?_ _ | refine .setCell ?_ (by simp <;> omega) _ | refine bstep ?_ (by assumption)))))
   (first | (go_at_call 17; go_split_ands; refine (C10.out P2 _ (HI8.out.keep ‹_›)).mono ?_; rintro e wa1 ⟨A1, a1, rfl, r1, hba1⟩; clear HI8) | (go_at_call 17; go_split_ands; refine (C10.out Q2 _ (HJ8.out.keep ‹_›)).mono ?_; rintro e wa2 ⟨A2, a2, rfl, r2, hba2⟩; clear HJ8; have r3 := r1.keep hba2; clear r1) | (go_at_call 12; go_split_ands; refine (rSame15_eq _ _ _ _ _ _ _ r3 r2 (by omega)).mono ?_; rintro e wa3 ⟨rfl, hba3⟩; clear r3 r2))
  all_goals go_wp2_with fail
  all_goals go_meet
  all_goals exact ⟨rfl, by first | assumption | (go_split_ands; assumption)⟩
 case rest =>
  obtain ⟨rfl, hbx⟩ := hcut
  have hO := HO8.out.keep hbx
  clear HO8 HI8 HJ8 p0 q0 C10 hbx
  have ⟨a0, a1, a2, a3, b0, x0⟩ := hO.cells
  cases hget : ixGet L a.k with
  | some x =>
   obtain ⟨hxm, hxk⟩ := get_mem hget
   have hxs := HSZ.out x hxm
   have hxv := HGD.out.ok x hxm
   have c12 : ∀ W, IxAt W P L → Calls Tryz.prog 27 #[.agg #[.pointer P], .string a.k] W (Ret W (.tuple #[.agg #[.string x.k, .string x.t, .int .i64 x.z, .int .i64 x.r], .bool true])) := fun W h => by have := ixGet_any P L a.k W h hu; rw [hget] at this; exact this
   have c14 := fun W (h : IxAt W P L) => ixDelete_any P L a.k W h hu
   have hdn := ixDel_len L a.k hu
   have hdl : (ixDel L a.k).length ≤ 40 := Nat.le_trans (List.length_filter_le _ _) hl40
   have c15 := fun Y W (h : IxAt W Y (ixDel L a.k)) (hb : Below w.heap.size w W) => ixPut_any Y _ x W h (up_del _ hu) (by omega) (by omega) (by omega) (Env.keep HE.out hb) (HK.out.keep hb)
   have hps : ixPutS (ixDel L a.k) x = (L, 0) := by rw [putS_small x (by omega), if_pos hxv, put_back hu hget]
   have c16 : ∀ Y W, IxAt W Y (ixDel L a.k) → Calls Tryz.prog 27 #[.agg #[.pointer Y], .string a.k] W (Ret W (.tuple #[.agg #[.string ⟨#[]⟩, .string ⟨#[]⟩, .int .i64 0, .int .i64 0], .bool false])) := fun Y W h => by have := ixGet_any Y _ a.k W h (up_del _ hu); rw [get_del] at this; exact this
   have c17 := fun Y W (h : IxAt W Y (ixDel L a.k)) => ixLen_any Y _ W h
   have c18 := fun W (h : IxAt W P L) => ixLen_any P _ W h
   unfold IxPutP at c15
   unfold DelPost at c14
   rw [hps] at c15
   rw [hget] at c14 hdn
   simp only [Option.isSome_some, if_true] at c14 hdn
   obtain ⟨m, hm⟩ : ∃ m, m = (ixDel L a.k).length := ⟨_, rfl⟩
   rw [← hm] at c17 hdn
   rw [← hdn] at c18
   obtain ⟨zL, hzL⟩ : ∃ z : Int, z = ((m + 1 : Nat) : Int) := ⟨_, rfl⟩
   obtain ⟨zY, hzY⟩ : ∃ z : Int, z = (m : Int) := ⟨_, rfl⟩
   rw [← hzL] at c18
   rw [← hzY] at c17
   have hm1 : IntKind.i64.wrap (zL - 1) = zY := by rw [IntWalk.i64_in _ (by omega)]; omega
   have D12 := Lib.hid c12; have D14 := Lib.hid c14; have D15 := Lib.hid c15; have D16 := Lib.hid c16; have D17 := Lib.hid c17; have D18 := Lib.hid c18
   clear hzL hzY hdn hm c12 c14 c15 c16 c17 c18 hps hxm hxk hxs hxv hdl HSZ HGD HPUT C18 hget
   go_upto_region 13 with (go_at_call 27; refine (D12.out _ hO.ix).mono ?_; rintro e wt ⟨rfl, hbt⟩; clear D12)
   have hB : Below wc.heap.size wc (wt.alloc (.cells #[.string x.k, .string x.t, .int .i64 x.z, .int .i64 x.r] 41)) := balloc hbt _
   have hO1 := hO.keep hB
   have hg14 := RowV.new wt 41 [.string x.k, .string x.t, .int .i64 x.z, .int .i64 x.r]
   generalize hwn : wt.alloc (.cells #[.string x.k, .string x.t, .int .i64 x.z, .int .i64 x.r] 41) = w12 at *
   generalize wt.heap.size = g14 at *
   clear hwn hB hbt hO
   clear a0 a1 a2 a3 b0 x0
   have ⟨a0, a1, a2, a3, b0, x0⟩ := hO1.cells
   go_upto_region 15 with (go_at_call 23; refine (D14.out _ hO1.ix).mono ?_; rintro e wt ⟨Y, rfl, hy, hbt⟩; clear D14)
   have hB : Below w12.heap.size w12 (wt.alloc (.cells #[.pointer Y] 27)) := balloc hbt _
   have hO2 := hO1.keep hB
   have h14b := hg14.keep hB
   have hg16 := RowV.new wt 27 [.pointer Y]
   have hy2 := hy.keep (balloc (Below.refl _ _) (.cells #[.pointer Y] 27))
   generalize hwn : wt.alloc (.cells #[.pointer Y] 27) = w13 at *
   generalize wt.heap.size = g16 at *
   clear hwn hB hbt hO1 hg14 hy
   clear a0 a1 a2 a3 b0 x0
   have ⟨a0, a1, a2, a3, b0, x0⟩ := hO2.cells
   have y0 := hg16.cell (k := 0) rfl
   have d0 := h14b.cell (k := 0) rfl
   have d1 := h14b.cell (k := 1) rfl
   have d2 := h14b.cell (k := 2) rfl
   have d3 := h14b.cell (k := 3) rfl
   go_upto_region 16 with (go_at_call 24; refine (D15.out Y _ hy2 hO2.bw).mono ?_; rintro e wt ⟨Z, rfl, hz, hbt⟩; clear D15)
   have hB : Below w13.heap.size w13 (wt.alloc (.cells #[.pointer Z] 27)) := balloc hbt _
   have hO3 := hO2.keep hB
   have h16b := hg16.keep hB
   have hy3 := hy2.keep hB
   have hg18 := RowV.new wt 27 [.pointer Z]
   have hz2 := hz.keep (balloc (Below.refl _ _) (.cells #[.pointer Z] 27))
   generalize hwn : wt.alloc (.cells #[.pointer Z] 27) = w14 at *
   generalize wt.heap.size = g18 at *
   clear hwn hB hbt hO2 hg16 hy2 hz
   clear a0 a1 a2 a3 b0 x0 y0 d0 d1 d2 d3 h14b
   have ⟨a0, a1, a2, a3, b0, x0⟩ := hO3.cells
   have y0 := h16b.cell (k := 0) rfl
   go_upto_region 17 with (go_at_call 27; refine (D16.out Y _ hy3).mono ?_; rintro e wt ⟨rfl, hbt⟩; clear D16)
   have hB : Below w14.heap.size w14 (wt.alloc (.cells #[.string ⟨#[]⟩, .string ⟨#[]⟩, .int .i64 0, .int .i64 0] 41)) := balloc hbt _
   have hO4 := hO3.keep hB
   have h16c := h16b.keep hB
   have hy4 := hy3.keep hB
   have h18b := hg18.keep hB
   have hz3 := hz2.keep hB
   have hg20 := RowV.new wt 41 [.string ⟨#[]⟩, .string ⟨#[]⟩, .int .i64 0, .int .i64 0]
   generalize hwn : wt.alloc (.cells #[.string ⟨#[]⟩, .string ⟨#[]⟩, .int .i64 0, .int .i64 0] 41) = w9 at *
   generalize wt.heap.size = g20 at *
   clear hwn hB hbt hO3 h16b hy3 hg18 hz2
   clear a0 a1 a2 a3 b0 x0 y0 hg20
   have k0 := hO4.rx.cell (k := 0) rfl
   have k1 := h16c.cell (k := 0) rfl
   have k2 := h18b.cell (k := 0) rfl
   have HX := Lib.hid hO4.ix; have HY := Lib.hid hy4; have HZ := Lib.hid hz3; have HB := Lib.hid hO4.bw
   clear hO4 h16c hy4 h18b hz3
   go_region_held3 (fun w' => w'.cell? ⟨g, 0, none⟩ = some (.pointer P) ∧ w'.cell? ⟨g16, 0, none⟩ = some (.pointer Y) ∧ w'.cell? ⟨g18, 0, none⟩ = some (.pointer Z) ∧ Below w9.heap.size w9 w')
    (first | (go_split_ands; refine (fun (hB : Below w9.heap.size w9 _) => (⟨cell_keep hB k0, cell_keep hB k1, cell_keep hB k2, hB⟩ : _ ∧ _ ∧ _ ∧ _)) ?_; (repeat (first | exact .refl _ _ | assumption | refine .drew ?_ | refine balloc ?_ _ | refine bdrewN ?_ _ | refine .setCell ?_ (by simp <;> omega) _ | refine bstep ?_ (by assumption)))) | (refine (fun (hB : Below w9.heap.size w9 _) => (⟨cell_keep hB k0, cell_keep hB k1, cell_keep hB k2, hB⟩ : _ ∧ _ ∧ _ ∧ _)) ?_; (repeat (first | exact .refl _ _ | assumption | refine .drew ?_ | refine balloc ?_ _ | refine bdrewN ?_ _ | refine .setCell ?_ (by simp <;> omega) _ | refine bstep ?_ (by assumption)))))
    (first | (go_at_call 10; go_split_ands; refine (HSN.out _ (bstep HB.out ‹_›)).mono ?_; rintro e ws ⟨rfl, hbs⟩; clear HSN) | (go_at_call 25; go_split_ands; refine (D17.out Y _ (HY.out.keep ‹_›)).mono ?_; rintro e wl ⟨rfl, hbl⟩; clear D17) | (go_at_call 25; go_split_ands; refine (D18.out _ (HX.out.keep ‹_›)).mono ?_; rintro e wl2 ⟨rfl, hbl2⟩; clear D18) | (go_at_call 17; go_split_ands; refine (CL.out Z _ (HZ.out.keep ‹_›)).mono ?_; rintro e wa1 ⟨A1, n1, rfl, r1, hba1⟩; clear HZ) | (go_at_call 17; go_split_ands; refine (CL.out P _ (HX.out.keep ‹_›)).mono ?_; rintro e wa2 ⟨A2, n2, rfl, r2, hba2⟩; clear HX; have r3 := r1.keep hba2; clear r1) | (go_at_call 12; go_split_ands; refine (rSame15_eq _ _ _ _ _ _ _ r3 r2 (by omega)).mono ?_; rintro e wa3 ⟨rfl, hba3⟩; clear r3 r2))
   all_goals go_wp2_with fail
   all_goals go_ret
   all_goals exact ⟨rfl, bstep HB.out (by first | assumption | (go_split_ands; assumption))⟩
  | none =>
   have c12 : ∀ W, IxAt W P L → Calls Tryz.prog 27 #[.agg #[.pointer P], .string a.k] W (Ret W (.tuple #[.agg #[.string ⟨#[]⟩, .string ⟨#[]⟩, .int .i64 0, .int .i64 0], .bool false])) := fun W h => by have := ixGet_any P L a.k W h hu; rw [hget] at this; exact this
   have D12 := Lib.hid c12
   clear c12
   have hput := HPUT.out
   go_upto_region 18 with (go_at_call 27; refine (D12.out _ hO.ix).mono ?_; rintro e wt ⟨rfl, hbt⟩; clear D12)
   have hB : Below wc.heap.size wc (wt.alloc (.cells #[.string ⟨#[]⟩, .string ⟨#[]⟩, .int .i64 0, .int .i64 0] 41)) := balloc hbt _
   have hO1 := hO.keep hB
   have hg14 := RowV.new wt 41 [.string ⟨#[]⟩, .string ⟨#[]⟩, .int .i64 0, .int .i64 0]
   generalize hwn : wt.alloc (.cells #[.string ⟨#[]⟩, .string ⟨#[]⟩, .int .i64 0, .int .i64 0] 41) = w12 at *
   generalize wt.heap.size = g14 at *
   clear hwn hB hbt hO
   clear a0 a1 a2 a3 b0 x0 hg14
   have ⟨a0, a1, a2, a3, b0, x0⟩ := hO1.cells
   cases hva : validI a
   ·rw [if_neg (by rw [hva]; simp)] at hput
    have c18 := C18.out
    rw [hput] at c18
    have D18 := Lib.hid c18
    clear c18 hput HPUT C18 HSZ HGD hget hva
    go_upto_region 20 with (go_at_call 24; refine (D18.out P _ hO1.ix hO1.bw).mono ?_; rintro e wt ⟨Y, rfl, hy, hbt⟩; clear D18)
    have hB : Below w12.heap.size w12 (wt.alloc (.cells #[.pointer Y] 27)) := balloc hbt _
    have hO2 := hO1.keep hB
    have hg22 := RowV.new wt 27 [.pointer Y]
    have hy2 := hy.keep (balloc (Below.refl _ _) (.cells #[.pointer Y] 27))
    generalize hwn : wt.alloc (.cells #[.pointer Y] 27) = w9 at *
    generalize wt.heap.size = g22 at *
    clear hwn hB hbt hO1 hy
    clear a0 a1 a2 a3 b0 x0
    have k0 := hO2.rx.cell (k := 0) rfl
    have k1 := hg22.cell (k := 0) rfl
    have HX := Lib.hid hO2.ix; have HY := Lib.hid hy2; have HB := Lib.hid hO2.bw
    clear hO2 hy2 hg22
    go_region_held3 (fun w' => w'.cell? ⟨g, 0, none⟩ = some (.pointer P) ∧ w'.cell? ⟨g22, 0, none⟩ = some (.pointer Y) ∧ Below w9.heap.size w9 w')
     (first | (go_split_ands; refine (fun (hB : Below w9.heap.size w9 _) => (⟨cell_keep hB k0, cell_keep hB k1, hB⟩ : _ ∧ _ ∧ _)) ?_; (repeat (first | exact .refl _ _ | assumption | refine .drew ?_ | refine balloc ?_ _ | refine bdrewN ?_ _ | refine .setCell ?_ (by simp <;> omega) _ | refine bstep ?_ (by assumption)))) | (refine (fun (hB : Below w9.heap.size w9 _) => (⟨cell_keep hB k0, cell_keep hB k1, hB⟩ : _ ∧ _ ∧ _)) ?_; (repeat (first | exact .refl _ _ | assumption | refine .drew ?_ | refine balloc ?_ _ | refine bdrewN ?_ _ | refine .setCell ?_ (by simp <;> omega) _ | refine bstep ?_ (by assumption)))))
     (first | (go_at_call 10; go_split_ands; refine (HSN.out _ (bstep HB.out ‹_›)).mono ?_; rintro e ws ⟨rfl, hbs⟩; clear HSN) | (go_at_call 17; go_split_ands; refine (CL.out Y _ (HY.out.keep ‹_›)).mono ?_; rintro e wa1 ⟨A1, n1, rfl, r1, hba1⟩; clear HY) | (go_at_call 17; go_split_ands; refine (CL.out P _ (HX.out.keep ‹_›)).mono ?_; rintro e wa2 ⟨A2, n2, rfl, r2, hba2⟩; clear HX; have r3 := r1.keep hba2; clear r1) | (go_at_call 12; go_split_ands; refine (rSame15_eq _ _ _ _ _ _ _ r3 r2 (by omega)).mono ?_; rintro e wa3 ⟨rfl, hba3⟩; clear r3 r2))
    all_goals go_wp2_with fail
    all_goals go_ret
    all_goals exact ⟨rfl, bstep HB.out (by first | assumption | (go_split_ands; assumption))⟩
   ·rw [if_pos hva] at hput
    have c18 := C18.out
    rw [hput] at c18
    have hpl := ixPut_len L a hu
    rw [hget] at hpl
    simp only [Option.isSome_none, if_false, Bool.false_eq_true] at hpl
    have c21 : ∀ Y W, IxAt W Y (ixPut L a) → Calls Tryz.prog 27 #[.agg #[.pointer Y], .string a.k] W (Ret W (.tuple #[.agg #[.string a.k, .string a.t, .int .i64 a.z, .int .i64 a.r], .bool true])) := fun Y W h => by have := ixGet_any Y _ a.k W h (up_put _ hu); rw [get_put] at this; exact this
    have c22 := fun Y W (h : IxAt W Y (ixPut L a)) => ixDelete_any Y _ a.k W h (up_put _ hu)
    unfold DelPost at c22
    rw [get_put, del_put_new hu hget] at c22
    simp only [Option.isSome_some] at c22
    have c23 := fun Y W (h : IxAt W Y (ixPut L a)) => ixLen_any Y _ W h
    have c24 := fun W (h : IxAt W P L) => ixLen_any P _ W h
    rw [hpl] at c23
    obtain ⟨zL, hzL⟩ : ∃ z : Int, z = (L.length : Int) := ⟨_, rfl⟩
    obtain ⟨zY, hzY⟩ : ∃ z : Int, z = ((L.length + 1 : Nat) : Int) := ⟨_, rfl⟩
    rw [← hzL] at c24
    rw [← hzY] at c23
    have hm1 : IntKind.i64.wrap (zL + 1) = zY := by rw [IntWalk.i64_in _ (by omega)]; omega
    have D18 := Lib.hid c18; have D21 := Lib.hid c21; have D22 := Lib.hid c22; have D23 := Lib.hid c23; have D24 := Lib.hid c24
    clear hzL hzY c18 c21 c22 c23 c24 hput hpl HPUT C18 HSZ HGD hget hva
    go_upto_region 21 with (go_at_call 24; refine (D18.out P _ hO1.ix hO1.bw).mono ?_; rintro e wt ⟨Y, rfl, hy, hbt⟩; clear D18)
    have hB : Below w12.heap.size w12 (wt.alloc (.cells #[.pointer Y] 27)) := balloc hbt _
    have hO2 := hO1.keep hB
    have hg22 := RowV.new wt 27 [.pointer Y]
    have hy2 := hy.keep (balloc (Below.refl _ _) (.cells #[.pointer Y] 27))
    generalize hwn : wt.alloc (.cells #[.pointer Y] 27) = w13 at *
    generalize wt.heap.size = g22 at *
    clear hwn hB hbt hO1 hy
    clear a0 a1 a2 a3 b0 x0
    have ⟨a0, a1, a2, a3, b0, x0⟩ := hO2.cells
    have y0 := hg22.cell (k := 0) rfl
    go_upto_region 22 with (go_at_call 27; refine (D21.out Y _ hy2).mono ?_; rintro e wt ⟨rfl, hbt⟩; clear D21)
    have hB : Below w13.heap.size w13 (wt.alloc (.cells #[.string a.k, .string a.t, .int .i64 a.z, .int .i64 a.r] 41)) := balloc hbt _
    have hO3 := hO2.keep hB
    have hy3 := hy2.keep hB
    have h22b := hg22.keep hB
    have hg24 := RowV.new wt 41 [.string a.k, .string a.t, .int .i64 a.z, .int .i64 a.r]
    generalize hwn : wt.alloc (.cells #[.string a.k, .string a.t, .int .i64 a.z, .int .i64 a.r] 41) = w14 at *
    generalize wt.heap.size = g24 at *
    clear hwn hB hbt hO2 hy2 hg22
    clear a0 a1 a2 a3 b0 x0 y0
    have ⟨a0, a1, a2, a3, b0, x0⟩ := hO3.cells
    have y0 := h22b.cell (k := 0) rfl
    go_upto_region 23 with (go_at_call 23; refine (D22.out Y _ hy3).mono ?_; rintro e wt ⟨Z, rfl, hz, hbt⟩; clear D22)
    have hB : Below w14.heap.size w14 (wt.alloc (.cells #[.pointer Z] 27)) := balloc hbt _
    have hO4 := hO3.keep hB
    have hy4 := hy3.keep hB
    have h22c := h22b.keep hB
    have h24b := hg24.keep hB
    have hg26 := RowV.new wt 27 [.pointer Z]
    have hz2 := hz.keep (balloc (Below.refl _ _) (.cells #[.pointer Z] 27))
    generalize hwn : wt.alloc (.cells #[.pointer Z] 27) = w9 at *
    generalize wt.heap.size = g26 at *
    clear hwn hB hbt hO3 hy3 h22b hg24 hz
    clear a0 a1 a2 a3 b0 x0 y0
    have ⟨a0, a1, a2, a3, b0, k0⟩ := hO4.cells
    have k1 := h22c.cell (k := 0) rfl
    have k2 := hg26.cell (k := 0) rfl
    have d0 := h24b.cell (k := 0) rfl
    have d1 := h24b.cell (k := 1) rfl
    have d2 := h24b.cell (k := 2) rfl
    have d3 := h24b.cell (k := 3) rfl
    have HX := Lib.hid hO4.ix; have HY := Lib.hid hy4; have HZ := Lib.hid hz2; have HB := Lib.hid hO4.bw
    clear hO4 h22c h24b hy4 hg26 hz2 b0
    go_region_held3 (fun w' => w'.cell? ⟨g, 0, none⟩ = some (.pointer P) ∧ w'.cell? ⟨g22, 0, none⟩ = some (.pointer Y) ∧ w'.cell? ⟨g26, 0, none⟩ = some (.pointer Z) ∧ w'.cell? ⟨w.heap.size, 0, none⟩ = some (.string a.k) ∧ w'.cell? ⟨w.heap.size, 1, none⟩ = some (.string a.t) ∧ w'.cell? ⟨w.heap.size, 2, none⟩ = some (.int .i64 a.z) ∧ w'.cell? ⟨w.heap.size, 3, none⟩ = some (.int .i64 a.r) ∧ w'.cell? ⟨g24, 0, none⟩ = some (.string a.k) ∧ w'.cell? ⟨g24, 1, none⟩ = some (.string a.t) ∧ w'.cell? ⟨g24, 2, none⟩ = some (.int .i64 a.z) ∧ w'.cell? ⟨g24, 3, none⟩ = some (.int .i64 a.r) ∧ Below w9.heap.size w9 w')
     (first | (go_split_ands; refine (fun (hB : Below w9.heap.size w9 _) => (⟨cell_keep hB k0, cell_keep hB k1, cell_keep hB k2, cell_keep hB a0, cell_keep hB a1, cell_keep hB a2, cell_keep hB a3, cell_keep hB d0, cell_keep hB d1, cell_keep hB d2, cell_keep hB d3, hB⟩ : _ ∧ _ ∧ _ ∧ _ ∧ _ ∧ _ ∧ _ ∧ _ ∧ _ ∧ _ ∧ _ ∧ _)) ?_; (repeat (first | exact .refl _ _ | assumption | refine .drew ?_ | refine balloc ?_ _ | refine bdrewN ?_ _ | refine .setCell ?_ (by simp <;> omega) _ | refine bstep ?_ (by assumption)))) | (refine (fun (hB : Below w9.heap.size w9 _) => (⟨cell_keep hB k0, cell_keep hB k1, cell_keep hB k2, cell_keep hB a0, cell_keep hB a1, cell_keep hB a2, cell_keep hB a3, cell_keep hB d0, cell_keep hB d1, cell_keep hB d2, cell_keep hB d3, hB⟩ : _ ∧ _ ∧ _ ∧ _ ∧ _ ∧ _ ∧ _ ∧ _ ∧ _ ∧ _ ∧ _ ∧ _)) ?_; (repeat (first | exact .refl _ _ | assumption | refine .drew ?_ | refine balloc ?_ _ | refine bdrewN ?_ _ | refine .setCell ?_ (by simp <;> omega) _ | refine bstep ?_ (by assumption)))))
     (first | (go_at_call 10; go_split_ands; refine (HSN.out _ (bstep HB.out ‹_›)).mono ?_; rintro e ws ⟨rfl, hbs⟩; clear HSN) | (go_at_call 25; go_split_ands; refine (D23.out Y _ (HY.out.keep ‹_›)).mono ?_; rintro e wl ⟨rfl, hbl⟩; clear D23) | (go_at_call 25; go_split_ands; refine (D24.out _ (HX.out.keep ‹_›)).mono ?_; rintro e wl2 ⟨rfl, hbl2⟩; clear D24) | (go_at_call 17; go_split_ands; refine (CL.out Z _ (HZ.out.keep ‹_›)).mono ?_; rintro e wa1 ⟨A1, n1, rfl, r1, hba1⟩; clear HZ) | (go_at_call 17; go_split_ands; refine (CL.out P _ (HX.out.keep ‹_›)).mono ?_; rintro e wa2 ⟨A2, n2, rfl, r2, hba2⟩; clear HX; have r3 := r1.keep hba2; clear r1) | (go_at_call 12; go_split_ands; refine (rSame15_eq _ _ _ _ _ _ _ r3 r2 (by omega)).mono ?_; rintro e wa3 ⟨rfl, hba3⟩; clear r3 r2))
    all_goals go_wp2_with fail
    all_goals go_ret
    all_goals exact ⟨rfl, bstep HB.out (by first | assumption | (go_split_ands; assumption))⟩
end Go.Proofs.YtokfclikhfpmhaaGreatDoor
namespace Go.Proofs.YtokfclikhfpmhaaGreatDoor
open Go.RowKit Go.Sort
set_option linter.unusedVariables false
set_option linter.unusedSimpArgs false
set_option maxRecDepth 100000
theorem cellsIt : Tryz.prog.cellsOf 41 = 4 := by kernel_rfl
section
variable {H : Type} {enc : TypeId × Value → H} {W : World} {base : Nat} {sp : Nat → Bool} {hd : Bool}
theorem open_item {r : Reach} {b0 : Nat} {v : Value} {d : DataW H} {ps : List MemPlace} (hval : Value.okWide Tryz.prog W r b0 41 v) (h : DataW.Trod enc Tryz.prog W base sp hd 41 v d ps) :
  ∃ x : It, v = .agg #[.string x.k, .string x.t, .int .i64 x.z, .int .i64 x.r] := by
 obtain ⟨cs, rfl, hsz⟩ := Go.WideShapes.okWide_struct Tryz.underlying41 hval
 obtain ⟨l⟩ := cs
 obtain ⟨fuel, hf⟩ := h
 obtain ⟨x, e⟩ := it_row (hsz.trans cellsIt) hf
 have e2 : l = x.vals := e
 subst e2
 exact ⟨x, rfl⟩
end
end Go.Proofs.YtokfclikhfpmhaaGreatDoor
