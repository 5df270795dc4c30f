/- An index: Len, Size, Get, Delete. -/
import Derived.Test.YtokfclikhfpmhaaGreatDoorIZ29
namespace Go.Proofs.YtokfclikhfpmhaaGreatDoor
open Go.RowKit Go.Sort
set_option linter.unusedVariables false
set_option linter.unusedSimpArgs false
set_option maxRecDepth 100000
set_option maxHeartbeats 4000000 in
theorem ixGet_any (A : Option Addr) (L : List It) (k : ByteArray) (w : World) (h : IxAt w A L) (hu : UpI L) : Calls Tryz.prog 27 #[.agg #[.pointer A], .string k] w (Ret w (getV (ixGet L k))) := by
 obtain ⟨t, hn, hL, _⟩ := h
 have hc := fun W (hb : Below w.heap.size w W) => treeFind_any k t A W (NodeAt.keep hb hn)
 rw [find_get hL hu k] at hc
 have HF := Lib.hid hc
 clear hc hn hL hu
 have hr0 : RowV ((w.alloc (.cells #[.pointer A] 27)).alloc (.cells #[.string ⟨#[]⟩, .string ⟨#[]⟩, .int .i64 0, .int .i64 0] 41)) (w.heap.size + 1) 41 [.string ⟨#[]⟩, .string ⟨#[]⟩, .int .i64 0, .int .i64 0] := by
  have h := RowV.new (w.alloc (.cells #[.pointer A] 27)) 41 [.string ⟨#[]⟩, .string ⟨#[]⟩, .int .i64 0, .int .i64 0]
  rwa [World.size_alloc] at h
 have HR := Lib.hid hr0
 clear hr0
 cases hg : ixGet L k with
 | none =>
  rw [hg] at HF
  go_enter Tryz.func27, Tryz.ntmps27
  go_upto_region 2 with (go_at_call 58; refine (HF.out _ belB).mono ?_; rintro e w2 ⟨P, rfl, hP, hb2⟩; cases (show P = none from hP))
  have hR := HR.out.keep hb2
  have hbw : Below w.heap.size w w2 := belB
  have r0 := hR.cell (k := 0) rfl
  have r1 := hR.cell (k := 1) rfl
  have r2 := hR.cell (k := 2) rfl
  have r3 := hR.cell (k := 3) rfl
  have f0 := hR.free 0
  have f1 := hR.free 1
  have f2 := hR.free 2
  have f3 := hR.free 3
  clear hb2 HR hP
  go_wp2
  have hS := (((hR.set_ 0 (.string ⟨#[]⟩)).set_ 1 (.string ⟨#[]⟩)).set_ 2 (.int .i64 0)).set_ 3 (.int .i64 0)
  have hb4 : Below w.heap.size w ((((w2.setCell ⟨w.heap.size + 1, 0, none⟩ (.string ⟨#[]⟩)).setCell ⟨w.heap.size + 1, 1, none⟩ (.string ⟨#[]⟩)).setCell ⟨w.heap.size + 1, 2, none⟩ (.int .i64 0)).setCell ⟨w.heap.size + 1, 3, none⟩ (.int .i64 0)) := belB
  generalize hw4 : World.setCell _ _ _ = w4 at *
  have q0 := hS.cell (k := 0) rfl
  have q1 := hS.cell (k := 1) rfl
  have q2 := hS.cell (k := 2) rfl
  have q3 := hS.cell (k := 3) rfl
  exact bodyPost_ret (v := getV none) (by simp [results, Tryz.results27, go_sem, q0, q1, q2, q3, getV]) rfl ⟨rfl, hb4⟩
 | some x =>
  rw [hg] at HF
  go_enter Tryz.func27, Tryz.ntmps27
  go_upto_region 2 with (go_at_call 58; refine (HF.out _ belB).mono ?_; rintro e w2 ⟨P, rfl, hP, hb2⟩)
  obtain ⟨p, l, r, hnd⟩ := hP
  obtain ⟨b, L0, R0, rfl, _, _, _, hr, _⟩ := hnd.facts
  have c2 := hr.cell (k := 2) rfl
  have c3 := hr.cell (k := 3) rfl
  have c4 := hr.cell (k := 4) rfl
  have c5 := hr.cell (k := 5) rfl
  have hR := HR.out.keep hb2
  have hbw : Below w.heap.size w w2 := belB
  have r0 := hR.cell (k := 0) rfl
  have r1 := hR.cell (k := 1) rfl
  have r2 := hR.cell (k := 2) rfl
  have r3 := hR.cell (k := 3) rfl
  have f0 := hR.free 0
  have f1 := hR.free 1
  have f2 := hR.free 2
  have f3 := hR.free 3
  clear hb2 HR hr hnd
  go_wp2
  have hS := (((hR.set_ 0 (.string x.k)).set_ 1 (.string x.t)).set_ 2 (.int .i64 x.z)).set_ 3 (.int .i64 x.r)
  have hb4 : Below w.heap.size w ((((w2.setCell ⟨w.heap.size + 1, 0, none⟩ (.string x.k)).setCell ⟨w.heap.size + 1, 1, none⟩ (.string x.t)).setCell ⟨w.heap.size + 1, 2, none⟩ (.int .i64 x.z)).setCell ⟨w.heap.size + 1, 3, none⟩ (.int .i64 x.r)) := belB
  generalize hw4 : World.setCell _ _ _ = w4 at *
  have q0 := hS.cell (k := 0) rfl
  have q1 := hS.cell (k := 1) rfl
  have q2 := hS.cell (k := 2) rfl
  have q3 := hS.cell (k := 3) rfl
  exact bodyPost_ret (v := getV (some x)) (by simp [results, Tryz.results27, go_sem, q0, q1, q2, q3, getV]) rfl ⟨rfl, hb4⟩
end Go.Proofs.YtokfclikhfpmhaaGreatDoor
namespace Go.Proofs.YtokfclikhfpmhaaGreatDoor
open Go.RowKit Go.Sort
set_option linter.unusedVariables false
set_option linter.unusedSimpArgs false
set_option maxRecDepth 100000
def eqI (x y : It) : Bool := (x.k.toList == y.k.toList) && ((x.t.toList == y.t.toList) && ((x.z == y.z) && (x.r == y.r)))
theorem eqI_iff {x y : It} : eqI x y = true ↔ x = y := by
 unfold eqI
 simp only [Bool.and_eq_true, beq_dec, decide_eq_true_eq, beq_iff_eq]
 constructor
 ·rintro ⟨h1, h2, h3, h4⟩
  obtain ⟨k, t, z, r⟩ := x
  obtain ⟨k', t', z', r'⟩ := y
  simp at *
  exact ⟨h1, h2, h3, h4⟩
 ·rintro rfl; exact ⟨rfl, rfl, rfl, rfl⟩
theorem eqI_in (x y : It) (w : World) : (Op.equalIn 10000 41 (.agg #[.string x.k, .string x.t, .int .i64 x.z, .int .i64 x.r]) (.agg #[.string y.k, .string y.t, .int .i64 y.z, .int .i64 y.r])).run Tryz.prog w = .ok (eqI x y) w := by
 unfold eqI
 simp [go_sem]
 by_cases h1 : x.k.toList = y.k.toList
 ·by_cases h2 : x.t.toList = y.t.toList
  ·by_cases h3 : x.z = y.z
   ·by_cases h4 : x.r = y.r
    ·simp [h1, h2, h3, h4]
    ·simp [h1, h2, h3, h4]
   ·simp [h1, h2, h3]
  ·simp [h1, h2]
 ·simp [h1]
theorem item_eql (x y : It) (w : World) : (binOp .eql 41 (.agg #[.string x.k, .string x.t, .int .i64 x.z, .int .i64 x.r]) (.agg #[.string y.k, .string y.t, .int .i64 y.z, .int .i64 y.r])).run Tryz.prog w = .ok (.bool (eqI x y)) w := by
 rw [run_eql_struct, eqI_in]; rfl
theorem item_neq (x y : It) (w : World) : (binOp .neq 41 (.agg #[.string x.k, .string x.t, .int .i64 x.z, .int .i64 x.r]) (.agg #[.string y.k, .string y.t, .int .i64 y.z, .int .i64 y.r])).run Tryz.prog w = .ok (.bool (!eqI x y)) w := by
 rw [run_neq_struct, eqI_in]; rfl
end Go.Proofs.YtokfclikhfpmhaaGreatDoor
namespace Go.Proofs.YtokfclikhfpmhaaGreatDoor
open Go.RowKit Go.Sort
set_option linter.unusedVariables false
set_option linter.unusedSimpArgs false
set_option maxRecDepth 100000
theorem putS_small {L : List It} (x : It) (h : L.length ≤ 1000) : ixPutS L x = if validI x then (ixPut L x, 0) else (L, 1) := by
 unfold ixPutS
 rw [show decide (L.length = 1048576) = false by simp; omega, Bool.and_false]
 rfl
theorem get_mem {L : List It} {k : ByteArray} {x : It} (h : ixGet L k = some x) : x ∈ L ∧ x.k = k := ⟨List.mem_of_find?_eq_some h, by simpa using List.find?_some h⟩
theorem get_none {L : List It} {k : ByteArray} : ixGet L k = none ↔ ∀ y ∈ L, y.k ≠ k := by
 unfold ixGet
 rw [List.find?_eq_none]
 simp
end Go.Proofs.YtokfclikhfpmhaaGreatDoor
namespace Go.Proofs.YtokfclikhfpmhaaGreatDoor
open Go.RowKit Go.Sort
set_option linter.unusedVariables false
set_option linter.unusedSimpArgs false
set_option maxRecDepth 100000
theorem from_nil (L : List It) : ixFrom L ⟨#[]⟩ = L := by
 unfold ixFrom
 rw [List.filter_eq_self]
 intro y _
 have : ltB y.k ⟨#[]⟩ = false := by
  unfold ltB
  simp
 rw [this]; rfl
theorem take_100 {L : List It} (h : L.length ≤ 40) : takeI 100 (ixFrom L ⟨#[]⟩) = L := by
 rw [from_nil]
 unfold takeI
 rw [List.take_of_length_le]
 simp; omega
end Go.Proofs.YtokfclikhfpmhaaGreatDoor
namespace Go.Proofs.YtokfclikhfpmhaaGreatDoor
open Go.RowKit Go.Sort
set_option linter.unusedVariables false
set_option linter.unusedSimpArgs false
set_option maxRecDepth 100000
attribute [local go_sem high] item_eql item_neq
def missB (M : List It) (x : It) : Bool := match ixGet M x.k with
 | none => true
 | some y => !eqI y x
theorem up_key {M : List It} (h : UpI M) {x y : It} (hx : x ∈ M) (hy : y ∈ M) (hk : x.k = y.k) : x = y := by
 induction M with
 | nil => cases hx
 | cons z l ih =>
  obtain ⟨hu, hz⟩ := up_cons h
  rcases List.mem_cons.1 hx with ex | hx1
  ·rcases List.mem_cons.1 hy with ey | hy1
   ·rw [ex, ey]
   ·have := hz y hy1; rw [← ex, hk, ltB_irr] at this; cases this
  ·rcases List.mem_cons.1 hy with ey | hy1
   ·have := hz x hx1; rw [← ey, hk, ltB_irr] at this; cases this
   ·exact ih hu hx1 hy1
theorem get_of_mem {M : List It} (h : UpI M) {x : It} (hx : x ∈ M) : ixGet M x.k = some x := by
 cases hg : ixGet M x.k with
 | none => exact absurd rfl (get_none.1 hg x hx)
 | some y =>
  obtain ⟨hy, hk⟩ := get_mem hg
  rw [up_key h hy hx hk]
theorem miss_iff {M : List It} (h : UpI M) {x : It} : missB M x = false ↔ x ∈ M := by
 unfold missB
 constructor
 ·intro hm
  split at hm
  ·cases hm
  ·rename_i y hg
   have he : eqI y x = true := by simpa using hm
   rw [← eqI_iff.1 he]
   exact (get_mem hg).1
 ·intro hx
  rw [get_of_mem h hx]
  simp [eqI_iff.2 rfl]
theorem miss_self {M : List It} (h : UpI M) : M.filter (missB M) = [] := List.filter_eq_nil_iff.2 fun x hx => by simp [(miss_iff h).2 hx]
theorem beg_nil (k : ByteArray) : bgB ⟨#[]⟩ k = true := (beg_iff _ _).2 ⟨k.data.toList, by simp⟩
theorem while_nil (L : List It) : ((ixFrom L ⟨#[]⟩).takeWhile fun y => bgB ⟨#[]⟩ y.k) = L := by
 rw [from_nil]
 induction L with
 | nil => rfl
 | cons x l ih => rw [List.takeWhile_cons_of_pos (p := fun y : It => bgB ⟨#[]⟩ y.k) (beg_nil _), ih]
set_option maxHeartbeats 2000000 in
theorem missing1_any (x : It) (M : List It) (Q : Option Addr) (B : Nat) (w : World) (hX : RowV w B 27 [.pointer Q]) (hi : IxAt w Q M) (hu : UpI M) : Calls Tryz.prog 101 #[.agg #[.string x.k, .string x.t, .int .i64 x.z, .int .i64 x.r], .pointer (some ⟨B, 0, none⟩)] w (Ret w (.bool (missB M x))) := by
 obtain ⟨W1, hW1⟩ : ∃ W1, W1 = w.alloc (.cells #[.string x.k, .string x.t, .int .i64 x.z, .int .i64 x.r] 41) := ⟨_, rfl⟩
 have hb1 : Below w.heap.size w W1 := by rw [hW1]; exact belB
 have hr : RowV W1 w.heap.size 41 [.string x.k, .string x.t, .int .i64 x.z, .int .i64 x.r] := by rw [hW1]; exact RowV.new w _ _
 have hg := fun W (h : IxAt W Q M) => ixGet_any Q M x.k W h hu
 have x0 := (hX.keep hb1).cell (k := 0) rfl
 have a0 := hr.cell (k := 0) rfl
 have HI := Lib.hid (hi.keep hb1); have HB1 := Lib.hid hb1; have HW1 := Lib.hid hW1; have HR := Lib.hid hr
 unfold missB
 cases hgt : ixGet M x.k with
 | none =>
  rw [hgt] at hg
  have HG := Lib.hid hg
  clear hg hi hX hb1 hW1 hr hgt hu
  go_enter Tryz.func101, Tryz.ntmps101
  go_upto_region 1 with fail
  rw [← HW1.out]
  clear HW1
  go_wp2_with (go_at_call 27; refine (HG.out _ HI.out).mono ?_; unfold getV; rintro e w2 ⟨rfl, hb2⟩)
  go_ret
  exact ⟨rfl, balloc (bstep HB1.out hb2) _⟩
 | some y =>
  rw [hgt] at hg
  have HG := Lib.hid hg
  clear hg hi hX hb1 hW1 hr hgt hu
  go_enter Tryz.func101, Tryz.ntmps101
  go_upto_region 1 with fail
  rw [← HW1.out]
  clear HW1
  go_upto_region 2 with (go_at_call 27; refine (HG.out _ HI.out).mono ?_; unfold getV; rintro e w2 ⟨rfl, hb2⟩)
  have hy := RowV.new w2 41 [.string y.k, .string y.t, .int .i64 y.z, .int .i64 y.r]
  have hb3 : Below W1.heap.size W1 (w2.alloc (.cells #[.string y.k, .string y.t, .int .i64 y.z, .int .i64 y.r] 41)) := balloc hb2 _
  have hr3 := HR.out.keep hb3
  generalize w2.alloc (.cells #[.string y.k, .string y.t, .int .i64 y.z, .int .i64 y.r] 41) = w3 at *
  generalize w2.heap.size = g3 at *
  have HB3 := Lib.hid (bstep HB1.out hb3)
  clear hb2 hb3 x0 a0 HR
  have a0 := hr3.cell (k := 0) rfl
  have a1 := hr3.cell (k := 1) rfl
  have a2 := hr3.cell (k := 2) rfl
  have a3 := hr3.cell (k := 3) rfl
  have y0 := hy.cell (k := 0) rfl
  have y1 := hy.cell (k := 1) rfl
  have y2 := hy.cell (k := 2) rfl
  have y3 := hy.cell (k := 3) rfl
  clear hr3 hy
  go_wp2
  go_ret
  exact ⟨rfl, HB3.out⟩
set_option maxHeartbeats 2000000 in
theorem missing_any (A B : Option Addr) (L M : List It) (w : World) (hA : IxAt w A L) (hB : IxAt w B M) (hu : UpI L) (hv : UpI M) (hn : L.length ≤ 1000) :
  Calls Tryz.prog 68 #[.agg #[.pointer A], .agg #[.pointer B]] w (ItsPost (L.filter (missB M)) w) := by
 obtain ⟨W1, hW1⟩ : ∃ W1, W1 = (w.alloc (.cells #[.pointer A] 27)).alloc (.cells #[.pointer B] 27) := ⟨_, rfl⟩
 have hb1 : Below w.heap.size w W1 := by rw [hW1]; exact belB
 have hX : RowV W1 (w.heap.size + 1) 27 [.pointer B] := by rw [hW1]; have h := RowV.new (w.alloc (.cells #[.pointer A] 27)) 27 [.pointer B]; rwa [World.size_alloc] at h
 have hf := ixFilter_any 101 #[.pointer (some ⟨w.heap.size + 1, 0, none⟩)] (enters_of Tryz.func101 (by kernel_rfl) rfl) (missB M) A L ⟨#[]⟩ W1 (hA.keep hb1) hu hn (fun x hx W hb => missing1_any x M B _ W (hX.keep hb) ((hB.keep hb1).keep hb) hv)
 rw [while_nil] at hf
 have HF := Lib.hid hf; have HB1 := Lib.hid hb1; have HW1 := Lib.hid hW1
 have hmf : ∀ (fn : Fn) (first cap : Array Value) (w : World), (Instr.makeFunc fn first cap).run Tryz.prog w = .ok (.func fn first cap) w := fun _ _ _ _ => rfl
 clear hf hb1 hW1 hA hB hu hv hX
 generalize L.filter (missB M) = R at *
 go_enter Tryz.func68, Tryz.ntmps68
 go_wp2_with (go_at_call 37; rw [← HW1.out]; refine HF.out.mono ?_; rintro e w2 ⟨A', c', rfl, hr, hb2⟩)
 go_ret
 exact ⟨A', c', rfl, hr, bstep HB1.out hb2⟩
end Go.Proofs.YtokfclikhfpmhaaGreatDoor
namespace Go.Proofs.YtokfclikhfpmhaaGreatDoor
open Go.RowKit Go.Sort
set_option linter.unusedVariables false
set_option linter.unusedSimpArgs false
set_option maxRecDepth 100000
theorem nd_inj {p p' : Nat} {x x' : It} {L R L' R' : Option Addr} {n n' : Nat} {s s' : Int} (h : ndC p x L R n s = ndC p' x' L' R' n' s') : p = p' ∧ x = x' ∧ L = L' ∧ R = R' := by
 unfold ndC at h
 obtain ⟨k, t, z, r⟩ := x
 obtain ⟨k', t', z', r'⟩ := x'
 simp only [List.cons.injEq, Value.int.injEq, Value.string.injEq, Value.pointer.injEq, true_and] at h
 obtain ⟨h1, h2, h3, h4, h5, h6, h7, h8, _⟩ := h
 refine ⟨by omega, ?_, h7, h8⟩
 subst h2 h4 h5 h6
 rfl
theorem NodeAt.one {w : World} : ∀ {t s : ITr} {A : Option Addr}, NodeAt w t A → NodeAt w s A → t = s
 | .nil, .nil, _, _, _ => rfl
 | .nil, .node _ _ _ _, A, h, ⟨b, _, _, e, _⟩ => by
  have h' : A = none := h
  rw [h'] at e; cases e
 | .node _ _ _ _, .nil, A, ⟨b, _, _, e, _⟩, h => by
  have h' : A = none := h
  rw [h'] at e; cases e
 | .node p x l r, .node p' x' l' r', A, ⟨b, L, R, e, hp, hr, hl, hr2⟩, ⟨b', L', R', e', hp', hr', hl', hr2'⟩ => by
  rw [e] at e'
  injection e' with e'
  injection e' with e' _ _
  subst e'
  unfold RowV at hr hr'
  rw [hr] at hr'
  injection hr' with hr'
  injection hr' with hc _ _
  have hc2 := congrArg Array.toList hc
  simp only [List.toList_toArray] at hc2
  obtain ⟨rfl, rfl, rfl, rfl⟩ := nd_inj hc2
  rw [NodeAt.one hl hl', NodeAt.one hr2 hr2']
theorem IxAt.one {w : World} {A : Option Addr} {L M : List It} (h : IxAt w A L) (k : IxAt w A M) : L = M := by
 obtain ⟨t, h1, h2, _⟩ := h
 obtain ⟨s, k1, k2, _⟩ := k
 rw [← h2, ← k2, NodeAt.one h1 k1]
theorem NodeAt.row {w : World} {t : ITr} {a : Addr} (h : NodeAt w t (some a)) : ∃ b cs, a = ⟨b, 0, none⟩ ∧ RowV w b 114 cs := by
 cases t with
 | nil => cases (show some a = none from h)
 | node p x l r =>
  obtain ⟨b, L, R, e, _, hr, _⟩ := h
  injection e with e
  exact ⟨b, _, e, hr⟩
theorem infoNode : ∃ j, Tryz.prog.info? 114 = some j ∧ j.size ≠ 0 := by
 have h : (Tryz.prog.info? 114).map (·.size) = some 10 := by kernel_rfl
 obtain ⟨j, hj, hs⟩ := Option.map_eq_some_iff.1 h
 exact ⟨j, hj, by omega⟩
theorem root_ne {w : World} {A B : Option Addr} {L M : List It} (h : IxAt w A L) (k : IxAt w B M) (hne : A ≠ B) : (binOp .eql 25 (.pointer A) (.pointer B)).run Tryz.prog w = .ok (.bool false) w := by
 obtain ⟨t, h1, _, _⟩ := h
 obtain ⟨s, k1, _, _⟩ := k
 obtain ⟨j, hj, hsz⟩ := infoNode
 cases A with
 | none =>
  cases B with
  | none => exact absurd rfl hne
  | some b =>
   have hh : ∀ d : Nat, (Op.equalIn (d + 1) 25 (.pointer none) (.pointer (some b))).run Tryz.prog w = .ok false w := fun d => by
    simp [Op.equalIn, run_underlying (show Tryz.prog.underlying 25 = some (.pointer 114) from Tryz.underlying25)]
   simp only [binOp]
   simp [Op.equal, Op.maxDepth, hh 9999]
 | some a =>
  obtain ⟨ba, ca, rfl, ra⟩ := h1.row
  cases B with
  | none =>
   rw [run_eql_pointer_nil w _ _ (by kernel_rfl)]; rfl
  | some b =>
   obtain ⟨bb, cb, rfl, rb⟩ := k1.row
   exact run_eql_ptr_other w Tryz.underlying25 hj hsz (fun e => hne (by rw [e])) ra rb
theorem root_eq {w : World} {A : Option Addr} {L : List It} (h : IxAt w A L) : (binOp .eql 25 (.pointer A) (.pointer A)).run Tryz.prog w = .ok (.bool true) w := by
 obtain ⟨j, hj, hsz⟩ := infoNode
 cases A with
 | none => rw [run_eql_pointer_nil w _ _ (by kernel_rfl)]; rfl
 | some a => exact run_eql_ptr_same w a Tryz.underlying25 hj
def ChgP (L M : List It) (w : World) (e : Ending) (w' : World) : Prop := ∃ A a B b, e = .returned (.tuple #[.slice A (L.filter (missB M)).length a, .slice B (M.filter (missB L)).length b]) ∧ ItsRead w' A (L.filter (missB M)).length (L.filter (missB M)) ∧ ItsRead w' B (M.filter (missB L)).length (M.filter (missB L)) ∧ Below w.heap.size w w'
set_option maxHeartbeats 2000000 in
theorem changes_any (A B : Option Addr) (L M : List It) (w : World) (hA : IxAt w A L) (hB : IxAt w B M) (hu : UpI L) (hv : UpI M) (hn : L.length ≤ 1000) (hm : M.length ≤ 1000) :
  Calls Tryz.prog 33 #[.agg #[.pointer A], .agg #[.pointer B]] w (ChgP L M w) := by
 obtain ⟨W1, hW1⟩ : ∃ W1, W1 = (w.alloc (.cells #[.pointer A] 27)).alloc (.cells #[.pointer B] 27) := ⟨_, rfl⟩
 have hb1 : Below w.heap.size w W1 := by rw [hW1]; exact belB
 have hX : RowV W1 w.heap.size 27 [.pointer A] := by rw [hW1]; exact (RowV.new w _ [.pointer A]).alloc _
 have hY : RowV W1 (w.heap.size + 1) 27 [.pointer B] := by rw [hW1]; have h := RowV.new (w.alloc (.cells #[.pointer A] 27)) 27 [.pointer B]; rwa [World.size_alloc] at h
 have x0 := hX.cell (k := 0) rfl
 have x1 := hY.cell (k := 0) rfl
 have HB1 := Lib.hid hb1; have HW1 := Lib.hid hW1
 by_cases hAB : A = B
 ·subst hAB
  obtain rfl := hA.one hB
  have hre := root_eq (hA.keep hb1)
  have hP : ChgP L L w (.returned (.tuple #[.slice none 0 0, .slice none 0 0])) W1 := by
   unfold ChgP
   rw [miss_self hu]
   exact ⟨none, 0, none, 0, rfl, ItsRead.nil_ _ _, ItsRead.nil_ _ _, hb1⟩
  have HP := Lib.hid hP
  clear hP hA hB hb1 hW1 hX hY
  generalize ChgP L L w = C at *
  go_enter Tryz.func33, Tryz.ntmps33
  go_upto_region 1 with fail
  rw [← HW1.out]
  clear HW1
  go_wp2
  exact HP.out
 ·have hre := root_ne (hA.keep hb1) (hB.keep hb1) hAB
  have h1 := fun W (hb : Below W1.heap.size W1 W) => missing_any A B L M W ((hA.keep hb1).keep hb) ((hB.keep hb1).keep hb) hu hv hn
  have h2 := fun W (hb : Below W1.heap.size W1 W) => missing_any B A M L W ((hB.keep hb1).keep hb) ((hA.keep hb1).keep hb) hv hu hm
  unfold ChgP
  have H1 := Lib.hid h1; have H2 := Lib.hid h2
  clear h1 h2 hA hB hb1 hW1 hX hY hu hv hn hm hAB
  generalize L.filter (missB M) = R1 at *
  generalize M.filter (missB L) = R2 at *
  go_enter Tryz.func33, Tryz.ntmps33
  go_upto_region 1 with fail
  rw [← HW1.out]
  clear HW1
  go_upto_region 3 with fail
  go_region_held3 (fun w' => w'.cell? ⟨w.heap.size, 0, none⟩ = some (.pointer A) ∧ w'.cell? ⟨w.heap.size + 1, 0, none⟩ = some (.pointer B) ∧ Below W1.heap.size W1 w')
   (first | (go_split_ands; refine (fun (hB : Below W1.heap.size W1 _) => (⟨cell_keep hB x0, cell_keep hB x1, hB⟩ : _ ∧ _ ∧ _)) ?_; (repeat (first | exact .refl _ _ | assumption | refine .drew ?_ | refine balloc ?_ _ | refine bdrewN ?_ _ | refine .setCell ?_ (by simp <;> omega) _ | refine bstep ?_ (by assumption)))) | (refine (fun (hB : Below W1.heap.size W1 _) => (⟨cell_keep hB x0, cell_keep hB x1, hB⟩ : _ ∧ _ ∧ _)) ?_; (repeat (first | exact .refl _ _ | assumption | refine .drew ?_ | refine balloc ?_ _ | refine bdrewN ?_ _ | refine .setCell ?_ (by simp <;> omega) _ | refine bstep ?_ (by assumption)))))
   (first | (go_at_call 68; go_split_ands; refine (H1.out _ ‹_›).mono ?_; rintro e w1 ⟨A1, a1, rfl, r1, hb1⟩; clear H1) | (go_at_call 68; go_split_ands; refine (H2.out _ ‹_›).mono ?_; rintro e w2 ⟨A2, a2, rfl, r2, hb2⟩; clear H2; have r3 := r1.keep hb2; clear r1))
  all_goals go_wp2_with fail
  all_goals go_ret2
  all_goals exact ⟨A1, a1, A2, a2, rfl, by first | assumption | (go_split_ands; assumption), by first | assumption | (go_split_ands; assumption), bstep HB1.out (by first | assumption | (go_split_ands; assumption))⟩
end Go.Proofs.YtokfclikhfpmhaaGreatDoor
namespace Go.Proofs.YtokfclikhfpmhaaGreatDoor
open Go.RowKit Go.Sort
set_option linter.unusedVariables false
set_option linter.unusedSimpArgs false
set_option maxRecDepth 100000
attribute [local go_sem high] item_eql item_neq
set_option maxHeartbeats 4000000 in
theorem rWithout15_any (A : Option Addr) (n c : Nat) (B : Option Addr) (nb cb : Nat) (L M : List It) (w : World) (hA : ItsRead w A n L) (hB : ItsRead w B nb M) (hn : n ≤ 1000000) (hnb : nb ≤ 1000000) :
  Calls Tryz.prog 34 #[.slice A n c, .slice B nb cb] w (ItsPost (L.filter (missB M)) w) := by
 have hl : n ≤ L.length ∧ L.length ≤ n := by have := hA.len; omega
 obtain ⟨i0, hi0, hz0, hz1, hz2⟩ := info_parts infoItem
 have HI : Hid ((Tryz.prog.info? 41 = some i0) ∧ i0.zero = some (.agg #[.string ⟨#[]⟩, .string ⟨#[]⟩, .int .i64 0, .int .i64 0]) ∧ i0.size = 4 ∧ i0.bytes = 48) := Lib.hid ⟨hi0, hz0, hz1, hz2⟩
 have HA := Lib.hid hA
 clear hi0 hz0 hz1 hz2 hA
 have HM := Lib.hid hB
 clear hB
 obtain ⟨p, hpp⟩ : ∃ p : It → Bool, p = missB M := ⟨_, rfl⟩
 have HPP := Lib.hid (show ∀ x, p x = missB M x from fun x => by rw [hpp])
 rw [← hpp]
 clear hpp
 go_enter Tryz.func34, Tryz.ntmps34
 go_wp2
 go_loopw [5, 6] (fun va vi wr => ∃ (k m : Nat) (acc : List It) (A' : Option Addr) (c' : Nat), (vi = .int .i64 k ∧ va = .slice A' m c' ∧ k ≤ n ∧ m ≤ k) ∧ Hid ((L.take k).filter p = acc ∧ acc.length = m) ∧ wr.ownsRow w.heap.size 41 4 (.slice A' m c') m (itsC acc) ∧ Below w.heap.size w wr) (fun _ i _ => n - (intOf i).toNat)
 case atStart => exact ⟨0, 0, [], none, 0, ⟨rfl, rfl, Nat.zero_le _, Nat.le_refl _⟩, Lib.hid ⟨by simp, rfl⟩, World.ownsRow_nil _ _ _ _, Below.refl _ _⟩
 case round =>
  obtain ⟨k, m, acc, A', c', ⟨rfl, rfl, hk, hm⟩, HK, hown, hbr⟩ := hrel
  have hbs := hbr.size
  by_cases hlt : k < n
  ·skip
   obtain ⟨x, hx⟩ : ∃ x, L[k]? = some x := ⟨_, List.getElem?_eq_getElem (by omega)⟩
   obtain ⟨b, o, rfl, c0, c1, c2, c3⟩ := (HA.out.keep hbr).cells hx
   have hk0 : (0 : Int) ≤ (k : Int) := by omega
   have hk1 : (k : Int) < (n : Int) := by omega
   have htk := take_at hx
   have hml := HK.out.2
   have hg := fun W (h : ItsRead W B nb M) => rGet15_any B nb cb M x.k W h hnb
   have hpx0 := HPP.out x
   unfold missB at hpx0
   have HX := Lib.hid hx
   have HV2 := Lib.hid (show (p x = false → (L.take (k + 1)).filter p = acc ∧ acc.length = m) ∧ (p x = true → (L.take (k + 1)).filter p = acc ++ [x] ∧ (acc ++ [x]).length = m + 1) from
    ⟨fun hpx => ⟨by rw [htk, ← HK.out.1]; simp [List.filter_append, hpx], hml⟩, fun hpx => ⟨by rw [htk, ← HK.out.1]; simp [List.filter_append, hpx], by simp [hml]⟩⟩)
   clear hx HK htk hml
   cases hgt : ixGet M x.k with
   | none =>
    rw [hgt] at hg hpx0
    have HG := Lib.hid hg
    have HV := Lib.hid (HV2.out.2 hpx0)
    clear hg hpx0 HV2 hgt
    go_upto_region 6 with (go_at_call 28; refine (HG.out _ (HM.out.keep hbr)).mono ?_; unfold getV; rintro e w1 ⟨rfl, hb1⟩)
    have hb2 : Below wr.heap.size wr (w1.alloc (.cells #[.string ⟨#[]⟩, .string ⟨#[]⟩, .int .i64 0, .int .i64 0] 41)) := balloc hb1 _
    have hy := RowV.new w1 41 [.string ⟨#[]⟩, .string ⟨#[]⟩, .int .i64 0, .int .i64 0]
    generalize w1.alloc (.cells #[.string ⟨#[]⟩, .string ⟨#[]⟩, .int .i64 0, .int .i64 0] 41) = w2 at *
    generalize w1.heap.size = gA at *
    have hown2 := ownsRow_keep hown hb2
    have hbr2 := bstep hbr hb2
    clear hown hbr hbs c0 c1 c2 c3 hb1 hb2
    obtain ⟨wr, rfl⟩ : ∃ x : World, x = w2 := ⟨_, rfl⟩
    refine wp_region_quiet_below (by kernel_rfl) (by kernel_rfl) ?_; (repeat (any_goals (first | go_big_quiet_step (fail) | quiet_step (fail)))); refine wpQuiet_nil ?_; intro _ hwq; obtain ⟨⟨dq, osq⟩, hwq⟩ := hwq; subst hwq; have hbq := below_regrown (wr) dq osq; generalize grow (redrawn (wr) dq) osq = wq at *
    have hown := ownsRow_keep hown2 hbq
    have hbr := bstep hbr2 hbq
    have hbs := hbr.size
    clear hown2 hbr2 hbq hy
    obtain ⟨c0, c1, c2, c3⟩ := (HA.out.keep hbr).cells_at HX.out
    obtain ⟨wr, rfl⟩ : ∃ x : World, x = wq := ⟨_, rfl⟩
    go_wp2_with (at_builtin; refine wpList_append_own _ rfl _ _ 28 rfl w.heap.size 41 i0 (.agg #[.string ⟨#[]⟩, .string ⟨#[]⟩, .int .i64 0, .int .i64 0]) 4 48 Tryz.underlying28 HI.out.1 HI.out.2.1 HI.out.2.2.1 HI.out.2.2.2 rfl (by decide) _ _ _ rfl (hown.alloc _) ⟨wr.heap.size, 0, none⟩ 1 1 [.string x.k, .string x.t, .int .i64 x.z, .int .i64 x.r] rfl rfl (World.news_of_block (cs := #[.string x.k, .string x.t, .int .i64 x.z, .int .i64 x.r]) (t := 41) (fr := (0, 0)) (World.alloc_heap_new wr _)) (by simp [Value.oneCell']) (by unfold maxLen; omega) (by omega) (by simp; omega) ?_; intro v' w3 hown1 hgrow1 _; obtain ⟨g1, cap1, rfl⟩ := ownsRow_succ hown1; have hb3 : Below w.heap.size w w3 := (hbr.alloc hbs _).grown hgrow1 (by simp; omega) (fun r e => by have := ownsRow_block hown r e; omega))
    exact ⟨⟨k + 1, m + 1, acc ++ [x], some ⟨g1, 0, none⟩, cap1, ⟨by go_num, rfl, by omega, by omega⟩, HV, by rw [itsC_app, itsC_one]; exact hown1, hb3⟩, by simp [intOf]; omega⟩
   | some y =>
    rw [hgt] at hg hpx0
    have HG := Lib.hid hg
    cases he : eqI y x
    ·have HV := Lib.hid (HV2.out.2 (by rw [hpx0]; simp [he]))
     clear hg hpx0 HV2 hgt
     go_upto_region 6 with (go_at_call 28; refine (HG.out _ (HM.out.keep hbr)).mono ?_; unfold getV; rintro e w1 ⟨rfl, hb1⟩)
     have hb2 : Below wr.heap.size wr (w1.alloc (.cells #[.string y.k, .string y.t, .int .i64 y.z, .int .i64 y.r] 41)) := balloc hb1 _
     have hy := RowV.new w1 41 [.string y.k, .string y.t, .int .i64 y.z, .int .i64 y.r]
     generalize w1.alloc (.cells #[.string y.k, .string y.t, .int .i64 y.z, .int .i64 y.r] 41) = w2 at *
     generalize w1.heap.size = gA at *
     have hown2 := ownsRow_keep hown hb2
     have hbr2 := bstep hbr hb2
     clear hown hbr hbs c0 c1 c2 c3 hb1 hb2
     obtain ⟨wr, rfl⟩ : ∃ x : World, x = w2 := ⟨_, rfl⟩
     obtain ⟨c0, c1, c2, c3⟩ := (HA.out.keep hbr2).cells_at HX.out
     have k1 := cell_regrown c0; have k2 := cell_regrown c1; have k3 := cell_regrown c2; have k4 := cell_regrown c3
     have k5 := cell_regrown (hy.cell (k := 0) rfl); have k6 := cell_regrown (hy.cell (k := 1) rfl); have k7 := cell_regrown (hy.cell (k := 2) rfl); have k8 := cell_regrown (hy.cell (k := 3) rfl)
     clear c0 c1 c2 c3
     refine wp_region_quiet_below (by kernel_rfl) (by kernel_rfl) ?_; (repeat (any_goals (first | go_big_quiet_step (fail) | quiet_step (fail)))); refine wpQuiet_nil ?_; intro _ hwq; obtain ⟨⟨dq, osq⟩, hwq⟩ := hwq; subst hwq; have hbq := below_regrown (wr) dq osq; generalize grow (redrawn (wr) dq) osq = wq at *
     have hown := ownsRow_keep hown2 hbq
     have hbr := bstep hbr2 hbq
     have hbs := hbr.size
     clear hown2 hbr2 hbq hy
     clear k1 k2 k3 k4 k5 k6 k7 k8
     obtain ⟨c0, c1, c2, c3⟩ := (HA.out.keep hbr).cells_at HX.out
     obtain ⟨wr, rfl⟩ : ∃ x : World, x = wq := ⟨_, rfl⟩
     go_wp2_with (at_builtin; refine wpList_append_own _ rfl _ _ 28 rfl w.heap.size 41 i0 (.agg #[.string ⟨#[]⟩, .string ⟨#[]⟩, .int .i64 0, .int .i64 0]) 4 48 Tryz.underlying28 HI.out.1 HI.out.2.1 HI.out.2.2.1 HI.out.2.2.2 rfl (by decide) _ _ _ rfl (hown.alloc _) ⟨wr.heap.size, 0, none⟩ 1 1 [.string x.k, .string x.t, .int .i64 x.z, .int .i64 x.r] rfl rfl (World.news_of_block (cs := #[.string x.k, .string x.t, .int .i64 x.z, .int .i64 x.r]) (t := 41) (fr := (0, 0)) (World.alloc_heap_new wr _)) (by simp [Value.oneCell']) (by unfold maxLen; omega) (by omega) (by simp; omega) ?_; intro v' w3 hown1 hgrow1 _; obtain ⟨g1, cap1, rfl⟩ := ownsRow_succ hown1; have hb3 : Below w.heap.size w w3 := (hbr.alloc hbs _).grown hgrow1 (by simp; omega) (fun r e => by have := ownsRow_block hown r e; omega))
     exact ⟨⟨k + 1, m + 1, acc ++ [x], some ⟨g1, 0, none⟩, cap1, ⟨by go_num, rfl, by omega, by omega⟩, HV, by rw [itsC_app, itsC_one]; exact hown1, hb3⟩, by simp [intOf]; omega⟩
    ·have HV := Lib.hid (HV2.out.1 (by rw [hpx0]; simp [he]))
     clear hg hpx0 HV2 hgt
     go_upto_region 6 with (go_at_call 28; refine (HG.out _ (HM.out.keep hbr)).mono ?_; unfold getV; rintro e w1 ⟨rfl, hb1⟩)
     have hb2 : Below wr.heap.size wr (w1.alloc (.cells #[.string y.k, .string y.t, .int .i64 y.z, .int .i64 y.r] 41)) := balloc hb1 _
     have hy := RowV.new w1 41 [.string y.k, .string y.t, .int .i64 y.z, .int .i64 y.r]
     generalize w1.alloc (.cells #[.string y.k, .string y.t, .int .i64 y.z, .int .i64 y.r] 41) = w2 at *
     generalize w1.heap.size = gA at *
     have hown2 := ownsRow_keep hown hb2
     have hbr2 := bstep hbr hb2
     clear hown hbr hbs c0 c1 c2 c3 hb1 hb2
     obtain ⟨wr, rfl⟩ : ∃ x : World, x = w2 := ⟨_, rfl⟩
     obtain ⟨c0, c1, c2, c3⟩ := (HA.out.keep hbr2).cells_at HX.out
     have k1 := cell_regrown c0; have k2 := cell_regrown c1; have k3 := cell_regrown c2; have k4 := cell_regrown c3
     have k5 := cell_regrown (hy.cell (k := 0) rfl); have k6 := cell_regrown (hy.cell (k := 1) rfl); have k7 := cell_regrown (hy.cell (k := 2) rfl); have k8 := cell_regrown (hy.cell (k := 3) rfl)
     clear c0 c1 c2 c3
     refine wp_region_quiet_below (by kernel_rfl) (by kernel_rfl) ?_; (repeat (any_goals (first | go_big_quiet_step (fail) | quiet_step (fail)))); refine wpQuiet_nil ?_; intro _ hwq; obtain ⟨⟨dq, osq⟩, hwq⟩ := hwq; subst hwq; have hbq := below_regrown (wr) dq osq; generalize grow (redrawn (wr) dq) osq = wq at *
     have hown := ownsRow_keep hown2 hbq
     have hbr := bstep hbr2 hbq
     have hbs := hbr.size
     clear hown2 hbr2 hbq hy
     clear k1 k2 k3 k4 k5 k6 k7 k8
     go_wp2
     exact ⟨⟨k + 1, m, acc, A', c', ⟨by go_num, rfl, by omega, by omega⟩, HV, hown, hbr⟩, by simp [intOf]; omega⟩
  ·obtain rfl : k = n := by omega
   have hv : L.filter p = acc ∧ acc.length = m := by
    have := HK.out
    rwa [List.take_of_length_le (by omega)] at this
   have HV := Lib.hid hv
   clear HK hv
   go_wp2
   go_ret
   rw [HV.out.1]
   exact ⟨A', c', by rw [HV.out.2]; rfl, by rw [HV.out.2]; exact its_own hown HV.out.2, hbr⟩
end Go.Proofs.YtokfclikhfpmhaaGreatDoor
namespace Go.Proofs.YtokfclikhfpmhaaGreatDoor
open Go.RowKit Go.Sort
set_option linter.unusedVariables false
set_option linter.unusedSimpArgs false
set_option maxRecDepth 100000
def delAll (L ds : List It) : List It := ds.foldl (fun l d => ixDel l d.k) L
def putAll (L cs : List It) : List It := cs.foldl ixPut L
theorem up_ext : ∀ {a b : List It}, UpI a → UpI b → (∀ x, x ∈ a ↔ x ∈ b) → a = b
 | [], [], _, _, _ => rfl
 | [], y :: b, _, _, h => absurd ((h y).2 (List.mem_cons_self ..)) (by simp)
 | x :: a, [], _, _, h => absurd ((h x).1 (List.mem_cons_self ..)) (by simp)
 | x :: a, y :: b, ha, hb, h => by
  have hxy : x = y := by
   rcases List.mem_cons.1 ((h x).1 (List.mem_cons_self ..)) with e | h1
   ·exact e
   ·rcases List.mem_cons.1 ((h y).2 (List.mem_cons_self ..)) with e | h2
    ·exact e.symm
    ·have k1 := (up_cons hb).2 x h1
     have k2 := (up_cons ha).2 y h2
     rw [ltB_asym k1] at k2; cases k2
  subst hxy
  rw [up_ext (up_cons ha).1 (up_cons hb).1 fun z => ?_]
  constructor
  ·intro hz
   rcases List.mem_cons.1 ((h z).1 (List.mem_cons_of_mem _ hz)) with e | h1
   ·have := (up_cons ha).2 z hz; rw [e, ltB_irr] at this; cases this
   ·exact h1
  ·intro hz
   rcases List.mem_cons.1 ((h z).2 (List.mem_cons_of_mem _ hz)) with e | h1
   ·have := (up_cons hb).2 z hz; rw [e, ltB_irr] at this; cases this
   ·exact h1
theorem mem_del_iff {L : List It} {k : ByteArray} {y : It} : y ∈ ixDel L k ↔ y ∈ L ∧ y.k ≠ k := by
 unfold ixDel
 rw [List.mem_filter]
 simp
theorem mem_put_iff {L : List It} {x y : It} : y ∈ ixPut L x ↔ y = x ∨ (y ∈ L ∧ y.k ≠ x.k) := by
 unfold ixPut
 rw [List.mem_append, List.mem_cons, List.mem_filter, List.mem_filter]
 constructor
 ·rintro (⟨h1, h2⟩ | h | ⟨h1, h2⟩)
  ·exact .inr ⟨h1, ltB_ne h2⟩
  ·exact .inl h
  ·exact .inr ⟨h1, (ltB_ne h2).symm⟩
 ·rintro (h | ⟨h1, h2⟩)
  ·exact .inr (.inl h)
  ·rcases ltB_tot y.k x.k with k | k | k
   ·exact .inl ⟨h1, k⟩
   ·exact absurd k h2
   ·exact .inr (.inr ⟨h1, k⟩)
theorem del_step {L ds : List It} {i : Nat} {x : It} (h : ds[i]? = some x) : delAll L (ds.take (i + 1)) = ixDel (delAll L (ds.take i)) x.k := by
 unfold delAll
 rw [List.take_add_one, h]
 simp
theorem put_stepA {L cs : List It} {i : Nat} {x : It} (h : cs[i]? = some x) : putAll L (cs.take (i + 1)) = ixPut (putAll L (cs.take i)) x := by
 unfold putAll
 rw [List.take_add_one, h]
 simp
theorem mem_delAll : ∀ {ds L : List It} {y : It}, y ∈ delAll L ds ↔ y ∈ L ∧ ∀ d ∈ ds, y.k ≠ d.k
 | [], L, y => by simp [delAll]
 | d :: ds, L, y => by
  show y ∈ delAll (ixDel L d.k) ds ↔ _
  rw [mem_delAll, mem_del_iff]
  constructor
  ·rintro ⟨⟨h1, h2⟩, h3⟩
   refine ⟨h1, fun e he => ?_⟩
   rcases List.mem_cons.1 he with rfl | he
   ·exact h2
   ·exact h3 e he
  ·rintro ⟨h1, h2⟩
   exact ⟨⟨h1, h2 d (List.mem_cons_self ..)⟩, fun e he => h2 e (List.mem_cons_of_mem _ he)⟩
theorem mem_putAll : ∀ {cs L : List It} {y : It}, UpI cs → (y ∈ putAll L cs ↔ y ∈ cs ∨ (y ∈ L ∧ ∀ c ∈ cs, y.k ≠ c.k))
 | [], L, y, _ => by simp [putAll]
 | c :: cs, L, y, hu => by
  obtain ⟨hu1, hc⟩ := up_cons hu
  show y ∈ putAll (ixPut L c) cs ↔ _
  rw [mem_putAll hu1, mem_put_iff]
  constructor
  ·rintro (h | ⟨h1 | ⟨h1, h2⟩, h3⟩)
   ·exact .inl (List.mem_cons_of_mem _ h)
   ·exact .inl (h1 ▸ List.mem_cons_self ..)
   ·refine .inr ⟨h1, fun e he => ?_⟩
    rcases List.mem_cons.1 he with rfl | he
    ·exact h2
    ·exact h3 e he
  ·rintro (h | ⟨h1, h2⟩)
   ·rcases List.mem_cons.1 h with rfl | h
    ·exact .inr ⟨.inl rfl, fun e he => ltB_ne (hc e he)⟩
    ·exact .inl h
   ·exact .inr ⟨.inr ⟨h1, h2 c (List.mem_cons_self ..)⟩, fun e he => h2 e (List.mem_cons_of_mem _ he)⟩
theorem up_delAll : ∀ {ds L : List It}, UpI L → UpI (delAll L ds)
 | [], _, h => h
 | _ :: ds, _, h => up_delAll (ds := ds) (up_del _ h)
theorem up_putAll : ∀ {cs L : List It}, UpI L → UpI (putAll L cs)
 | [], _, h => h
 | c :: cs, _, h => up_putAll (cs := cs) (up_put c h)
theorem len_delAll : ∀ {ds L : List It}, (delAll L ds).length ≤ L.length
 | [], _ => Nat.le_refl _
 | d :: ds, L => Nat.le_trans (len_delAll (ds := ds) (L := ixDel L d.k)) (List.length_filter_le _ _)
theorem len_putAll : ∀ {cs L : List It}, UpI L → (putAll L cs).length ≤ L.length + cs.length
 | [], _, _ => Nat.le_refl _
 | c :: cs, L, h => by
  have h1 := len_putAll (cs := cs) (up_put c h)
  have h2 := ixPut_len L c h
  show (putAll (ixPut L c) cs).length ≤ _
  rw [List.length_cons]
  split at h2 <;> omega
theorem gone_at {L G : List It} {i : Nat} {x : It} (hu : UpI L) (hG : UpI G) (hs : ∀ y ∈ G, y ∈ L) (h : G[i]? = some x) : (ixGet (delAll L (G.take i)) x.k).isSome = true := by
 have hx : x ∈ delAll L (G.take i) := by
  rw [mem_delAll]
  refine ⟨hs x (List.mem_of_getElem? h), fun d hd => ?_⟩
  obtain ⟨j, hj, rfl⟩ := List.getElem_of_mem hd
  rw [List.length_take] at hj
  have hlt := List.pairwise_iff_getElem.1 hG j i (by omega) (List.getElem?_eq_some_iff.1 h).1 (by omega)
  rw [(List.getElem?_eq_some_iff.1 h).2] at hlt
  rw [List.getElem_take]
  exact (ltB_ne hlt).symm
 rw [get_of_mem (up_delAll hu) hx]
 rfl
theorem all_changed {L M : List It} (hu : UpI L) (hv : UpI M) : putAll (delAll L (L.filter (missB M))) (M.filter (missB L)) = M := by
 refine up_ext (up_putAll (up_delAll hu)) hv fun y => ?_
 rw [mem_putAll (up_filter _ hv), mem_delAll]
 constructor
 ·rintro (h | ⟨⟨h1, h2⟩, _⟩)
  ·exact (List.mem_filter.1 h).1
  ·cases hm : missB M y
   ·exact (miss_iff hv).1 hm
   ·exact absurd rfl (h2 y (List.mem_filter.2 ⟨h1, hm⟩))
 ·intro hy
  cases hm : missB L y
  ·have hyL := (miss_iff hu).1 hm
   refine .inr ⟨⟨hyL, fun d hd => ?_⟩, fun c hc => ?_⟩
   ·obtain ⟨hd1, hd2⟩ := List.mem_filter.1 hd
    intro e
    have := up_key hu hyL hd1 e
    subst this
    rw [(miss_iff hv).2 hy] at hd2; cases hd2
   ·obtain ⟨hc1, hc2⟩ := List.mem_filter.1 hc
    intro e
    have := up_key hv hy hc1 e
    subst this
    rw [hm] at hc2; cases hc2
  ·exact .inl (List.mem_filter.2 ⟨hy, hm⟩)
end Go.Proofs.YtokfclikhfpmhaaGreatDoor
namespace Go.Proofs.YtokfclikhfpmhaaGreatDoor
open Go.RowKit Go.Sort
set_option linter.unusedVariables false
set_option linter.unusedSimpArgs false
set_option maxRecDepth 100000
set_option maxHeartbeats 8000000 in
theorem lawChanges15 (A : Option Addr) (n c : Nat) (os : List OpI) (A' : Option Addr) (n' c' : Nat) (os' : List OpI) (w : World) (hA : OpsRead w A n os) (hn : n ≤ 9223372036854775807) (hA' : OpsRead w A' n' os') (hn' : n' ≤ 9223372036854775807) (hE : Env w) (hK : Ks w) : Calls Tryz.prog 8 #[.slice A n c, .slice A' n' c'] w (Ret w (.bool true)) := by
 have hfw := fun W (hb : Below w.heap.size w W) => few15_any A n c os W (hA.keep hb) hn
 have hfx := fun W (hb : Below w.heap.size w W) => few15_any A' n' c' os' W (hA'.keep hb) hn'
 have hsn := fun W (hb : Below w.heap.size w W) => sanity15_any W (Env.keep hE hb) (hK.keep hb)
 have hmd := fun (hf : fewO os = true) W (hb : Below w.heap.size w W) => made15_any A n c os W (hA.keep hb) hf (Env.keep hE hb) (hK.keep hb)
 have hme := fun (hf : fewO os' = true) W (hb : Below w.heap.size w W) => made15_any A' n' c' os' W (hA'.keep hb) hf (Env.keep hE hb) (hK.keep hb)
 have HFW := Lib.hid hfw; have HFX := Lib.hid hfx; have HSN := Lib.hid hsn; have HMD := Lib.hid hmd; have HME := Lib.hid hme; have HE := Lib.hid hE; have HK := Lib.hid hK
 clear hfw hfx hsn hmd hme hA hA' hE hK
 cases hf : fewO os
 ·rw [hf] at HFW
  clear HMD HME
  go_enter Tryz.func8, Tryz.ntmps8; go_wp2_with (first | (go_at_call 9; refine (HFW.out _ belB).mono ?_; clear HFW; rintro e wf ⟨rfl, hbf⟩) | (go_at_call 9; refine (HFX.out _ belB).mono ?_; clear HFX; rintro e wf2 ⟨rfl, hbf2⟩) | (go_at_call 10; refine (HSN.out _ belB).mono ?_; rintro e ws ⟨rfl, hbs⟩)); go_ret; exact ⟨rfl, belB⟩
 cases hg : fewO os'
 ·rw [hf] at HFW
  rw [hg] at HFX
  clear HMD HME
  go_enter Tryz.func8, Tryz.ntmps8; go_wp2_with (first | (go_at_call 9; refine (HFW.out _ belB).mono ?_; clear HFW; rintro e wf ⟨rfl, hbf⟩) | (go_at_call 9; refine (HFX.out _ belB).mono ?_; clear HFX; rintro e wf2 ⟨rfl, hbf2⟩) | (go_at_call 10; refine (HSN.out _ belB).mono ?_; rintro e ws ⟨rfl, hbs⟩)); go_ret; exact ⟨rfl, belB⟩
 obtain ⟨hgd, hsz⟩ := few_good hf
 obtain ⟨hge, hsy⟩ := few_good hg
 have hmd := HMD.out hf
 have hme := HME.out hg
 unfold MadeP at hmd hme
 obtain ⟨L, hL⟩ : ∃ L, L = opsS os := ⟨_, rfl⟩
 obtain ⟨M, hM⟩ : ∃ M, M = opsS os' := ⟨_, rfl⟩
 rw [← hL] at hmd hgd hsz
 rw [← hM] at hme hge hsy
 rw [hf] at HFW
 rw [hg] at HFX
 have hl40 := hgd.len
 have hm40 := hge.len
 have hu := hgd.up
 have hv := hge.up
 obtain ⟨G, hG⟩ : ∃ G, G = L.filter (missB M) := ⟨_, rfl⟩
 obtain ⟨C, hC⟩ : ∃ C, C = M.filter (missB L) := ⟨_, rfl⟩
 have hch := fun P Q W (h : IxAt W P L) (k : IxAt W Q M) => changes_any P Q L M W h k hu hv (by omega) (by omega)
 have hw1 := fun B c B' c' W (h : ItsRead W B L.length L) (k : ItsRead W B' M.length M) => rWithout15_any B L.length c B' M.length c' L M W h k (by omega) (by omega)
 have hw2 := fun B c B' c' W (h : ItsRead W B M.length M) (k : ItsRead W B' L.length L) => rWithout15_any B M.length c B' L.length c' M L W h k (by omega) (by omega)
 have hal := all_changed hu hv
 unfold ChgP at hch
 rw [← hG] at hch hw1 hal
 rw [← hC] at hch hw2 hal
 have hGu : UpI G := by rw [hG]; exact up_filter _ hu
 have hCu : UpI C := by rw [hC]; exact up_filter _ hv
 have hGm : ∀ y ∈ G, y ∈ L := fun y hy => by rw [hG] at hy; exact (List.mem_filter.1 hy).1
 have hCm : ∀ y ∈ C, y ∈ M := fun y hy => by rw [hC] at hy; exact (List.mem_filter.1 hy).1
 have hGl : G.length ≤ 40 := by rw [hG]; exact Nat.le_trans (List.length_filter_le _ _) hl40
 have hCl : C.length ≤ 40 := by rw [hC]; exact Nat.le_trans (List.length_filter_le _ _) hm40
 have hdl : ∀ i x, G[i]? = some x → ∀ P W, IxAt W P (delAll L (G.take i)) → Calls Tryz.prog 23 #[.agg #[.pointer P], .string x.k] W fun e w' => ∃ B, e = .returned (.tuple #[.agg #[.pointer B], .bool true]) ∧ IxAt w' B (delAll L (G.take (i + 1))) ∧ Below W.heap.size W w' := fun i x hx P W h => by
  have := ixDelete_any P _ x.k W h (up_delAll hu)
  unfold DelPost at this
  rwa [gone_at hu hGu hGm hx, ← del_step hx] at this
 have hpt : ∀ j x, C[j]? = some x → ∀ P W, IxAt W P (putAll (delAll L G) (C.take j)) → Below w.heap.size w W → Calls Tryz.prog 24 #[.agg #[.pointer P], .agg #[.string x.k, .string x.t, .int .i64 x.z, .int .i64 x.r]] W fun e w' => ∃ B, e = .returned (.tuple #[.agg #[.pointer B], .int .i64 0]) ∧ IxAt w' B (putAll (delAll L G) (C.take (j + 1))) ∧ Below W.heap.size W w' := fun j x hx P W h hb => by
  have hxm := hCm x (List.mem_of_getElem? hx)
  have hlen : (putAll (delAll L G) (C.take j)).length ≤ 80 := by
   have h1 := len_putAll (cs := C.take j) (up_delAll (ds := G) hu)
   have h2 := len_delAll (ds := G) (L := L)
   rw [List.length_take] at h1
   omega
  have h3 := hsy x hxm
  have := ixPut_any P _ x W h (up_putAll (up_delAll hu)) (by omega) (by omega) (by omega) (Env.keep HE.out hb) (HK.out.keep hb)
  unfold IxPutP at this
  rwa [putS_small x (by omega), if_pos (hge.ok x hxm), ← put_stepA hx] at this
 have hf0 := fun P W (h : IxAt W P M) => ixFrom_any P M ⟨#[]⟩ 100 W h hv (by omega)
 rw [take_100 hm40] at hf0
 have HMA := Lib.hid hmd; have HMB := Lib.hid hme; have HCH := Lib.hid hch; have HW1 := Lib.hid hw1; have HW2 := Lib.hid hw2; have HAL := Lib.hid hal; have HDL := Lib.hid hdl; have HPT := Lib.hid hpt; have HF0 := Lib.hid hf0
 clear hmd hme hch hw1 hw2 hal hdl hpt hf0 HMD HME hgd hge hsz hsy hL hM hG hC hGu hCu hGm hCm hf hg HE HK hu hv
 go_enter Tryz.func8, Tryz.ntmps8
 go_upto_region 4 with (first | (go_at_call 9; refine (HFW.out _ belB).mono ?_; clear HFW; rintro e wf ⟨rfl, hbf⟩) | (go_at_call 9; refine (HFX.out _ belB).mono ?_; clear HFX; rintro e wf2 ⟨rfl, hbf2⟩) | (go_at_call 11; refine (HMA.out _ belB).mono ?_; clear HMA; rintro e wm ⟨P, B, c2, rfl, hix, hrx, hbm⟩))
 have hX := RowV.new wm 27 [.pointer P]
 have hix4 := hix.keep (balloc (Below.refl _ _) (.cells #[.pointer P] 27))
 have hrx4 := hrx.keep (balloc (Below.refl _ _) (.cells #[.pointer P] 27))
 have hb4 : Below w.heap.size w (wm.alloc (.cells #[.pointer P] 27)) := balloc belB _
 have hgw : w.heap.size ≤ wm.heap.size := by
  have hb : Below w.heap.size w wm := belB
  exact hb.size
 generalize hw4 : wm.alloc (.cells #[.pointer P] 27) = w4 at *
 generalize wm.heap.size = g at *
 clear hw4 hix hrx hbm hbf hbf2
 go_upto_region 7 with (go_at_call 11; refine (HMB.out _ hb4).mono ?_; clear HMB; rintro e wn ⟨Q, D, d2, rfl, hiy, hry, hbn⟩)
 have hY := RowV.new wn 27 [.pointer Q]
 have hb5 : Below w4.heap.size w4 (wn.alloc (.cells #[.pointer Q] 27)) := balloc hbn _
 have hiy5 := hiy.keep (balloc (Below.refl _ _) (.cells #[.pointer Q] 27))
 have hry5 := hry.keep (balloc (Below.refl _ _) (.cells #[.pointer Q] 27))
 generalize hw5 : wn.alloc (.cells #[.pointer Q] 27) = w5 at *
 generalize wn.heap.size = g5 at *
 have hX5 := hX.keep hb5
 have hix5 := hix4.keep hb5
 have hrx5 := hrx4.keep hb5
 have x0 := hX5.cell (k := 0) rfl
 have y0 := hY.cell (k := 0) rfl
 have hb05 := bstep hb4 hb5
 clear hw5 hiy hry hbn hX hix4 hrx4 hb4 hb5 hY
 have IX := Lib.hid hix5; have IY := Lib.hid hiy5; have RX := Lib.hid hrx5; have RY := Lib.hid hry5; have XX := Lib.hid hX5
 clear hix5 hiy5 hrx5 hry5 hX5
 go_upto_region 10 with (first | (go_at_call 33; refine (HCH.out P Q _ IX.out IY.out).mono ?_; clear HCH; rintro e w6 ⟨A1, a1, A2, a2, rfl, r1, r2, hb6⟩) | (go_at_call 34; refine (HW1.out B c2 D d2 _ (RX.out.keep hb6) (RY.out.keep hb6)).mono ?_; clear HW1; rintro e w7 ⟨A3, a3, rfl, r3, hb7⟩; have hq7 := bstep hb6 hb7; have r1b := r1.keep hb7) | (go_at_call 12; refine (rSame15_eq _ _ _ _ _ _ _ r1b r3 (by omega)).mono ?_; clear r1b r3; rintro e w8 ⟨rfl, hb8⟩; have hq8 := bstep hq7 hb8) | (go_at_call 34; refine (HW2.out D d2 B c2 _ (RY.out.keep hq8) (RX.out.keep hq8)).mono ?_; clear HW2; rintro e w9 ⟨A4, a4, rfl, r4, hb9⟩; have hq9 := bstep hq8 hb9; have r2b := r2.keep (bstep (bstep hb7 hb8) hb9)) | (go_at_call 12; refine (rSame15_eq _ _ _ _ _ _ _ r2b r4 (by omega)).mono ?_; clear r2b r4; rintro e w10 ⟨rfl, hb10⟩; have hq10 := bstep hq9 hb10))
 have h610 := bstep (bstep (bstep hb7 hb8) hb9) hb10
 have hG0 := r1.keep h610
 have hC0 := r2.keep h610
 have hY0 := RY.out.keep hq10
 have hX0 := XX.out.keep hq10
 have hI0 := IX.out.keep hq10
 have hb10w := bstep hb05 hq10
 have G0 := Lib.hid hG0; have C0 := Lib.hid hC0; have Y0 := Lib.hid hY0; have X0 := Lib.hid hX0; have I0 := Lib.hid hI0; have B10 := Lib.hid hb10w
 clear h610 hG0 hC0 hY0 hX0 hI0 hb10w hb05 hq7 hq8 hq9 hq10 hb6 hb7 hb8 hb9 hb10 r1 r2 x0 y0 IX IY RX RY XX
 go_wp2
 go_loopw [13] (fun vi wr => ∃ (i : Nat) (P' : Option Addr), (vi = .int .i64 i ∧ i ≤ G.length) ∧ RowV wr g 27 [.pointer P'] ∧ Hid (IxAt wr P' (delAll L (G.take i))) ∧ Below w.heap.size w wr ∧ Hid (ItsRead wr A1 G.length G) ∧ Hid (ItsRead wr A2 C.length C) ∧ Hid (ItsRead wr D M.length M)) (fun vi _ => G.length - (intOf vi).toNat)
 case atStart => exact ⟨0, P, ⟨rfl, Nat.zero_le _⟩, X0.out, I0, B10.out, G0, C0, Y0⟩
 case round =>
  clear X0 I0 B10 G0 C0 Y0
  obtain ⟨i, P', ⟨rfl, hi⟩, hX, HI, hbr, HG, HC, HY⟩ := hrel
  by_cases hlt : i < G.length
  ·obtain ⟨x, hx⟩ : ∃ x, G[i]? = some x := ⟨_, List.getElem?_eq_getElem hlt⟩
   obtain ⟨b, o, rfl, c0, c1, c2', c3⟩ := HG.out.cells hx
   have hdl := HDL.out i x hx P'
   have HDD := Lib.hid hdl
   have hi0 : (0 : Int) ≤ (i : Int) := by omega
   have hi1 : (i : Int) < (G.length : Int) := by omega
   have x5 := hX.cell (k := 0) rfl
   clear hdl hx c1 c2' c3
   go_upto_region 13 with fail
   go_cut [14, 15] (fun s8 s9 wx => ∃ (g' : Nat) (R : Option Addr), s8 = .pointer (some ⟨g', 0, none⟩) ∧ s9 = .bool true ∧ wr.heap.size ≤ g' ∧ RowV wx g' 27 [.pointer R] ∧ IxAt wx R (delAll L (G.take (i + 1))) ∧ Below wr.heap.size wr wx)
   case first =>
    go_region_held3 (fun w' => w'.cell? ⟨g, 0, none⟩ = some (.pointer P') ∧ w'.cell? ⟨b, o + i * 4, none⟩ = some (.string x.k) ∧ Below wr.heap.size wr w')
     (first | (go_split_ands; refine (fun (hB : Below wr.heap.size wr _) => (⟨cell_keep hB x5, cell_keep hB c0, hB⟩ : _ ∧ _ ∧ _)) ?_; (repeat (first | exact .refl _ _ | assumption | refine .drew ?_ | refine balloc ?_ _ | refine bdrewN ?_ _ | refine .setCell ?_ (by simp <;> omega) _ | refine bstep ?_ (by assumption)))) | (refine (fun (hB : Below wr.heap.size wr _) => (⟨cell_keep hB x5, cell_keep hB c0, hB⟩ : _ ∧ _ ∧ _)) ?_; (repeat (first | exact .refl _ _ | assumption | refine .drew ?_ | refine balloc ?_ _ | refine bdrewN ?_ _ | refine .setCell ?_ (by simp <;> omega) _ | refine bstep ?_ (by assumption)))))
     (first | (go_at_call 23; go_split_ands; refine (HDD.out _ (HI.out.keep ‹_›)).mono ?_; rintro e w3 ⟨R, rfl, hix, hb3⟩; first | (have hn0 : RowV w3 wr.heap.size 27 [.pointer none] := RowV.keep (w := (wr.alloc (.cells #[.pointer none] 27)).drew) (RowV.new wr 27 [.pointer none]) hb3; have n0 := hn0.cell (k := 0) rfl; have n1 := hn0.free 0) | skip))
    all_goals go_wp2_with fail
    all_goals go_meet
    ·exact ⟨_, R, rfl, rfl, by have := hb3.size; exact this, RowV.new w3 27 [.pointer R], hix.keep (balloc (Below.refl _ _) _), balloc (bstep (Below.drew (Below.refl _ _)) hb3) _⟩
    ·exact ⟨_, R, rfl, rfl, Nat.le_refl _, hn0.set_ 0 _, hix.far hn0 (by decide) 0 _, (bstep (Below.drew (balloc (Below.refl _ _) _)) hb3).setCell (by simp) _⟩
   case rest =>
    obtain ⟨g', R, rfl, rfl, hgg, hgR, hix, hbx⟩ := hcut
    have HIX := Lib.hid hix
    have hX2 := hX.keep hbx
    have y5 := hX2.cell (k := 0) rfl
    have yg := hgR.cell (k := 0) rfl
    have yf := hX2.free 0
    clear HDD c0 x5 hix
    go_wp2
    exact ⟨⟨i + 1, R, ⟨by go_num, by omega⟩, hX2.set_ 0 _, Lib.hid (HIX.out.far hX2 (by decide) 0 _), (bstep hbr hbx).setCell (by simp; omega) _, Lib.hid ((HG.out.keep hbx).far hX2 _), Lib.hid ((HC.out.keep hbx).far hX2 _), Lib.hid ((HY.out.keep hbx).far hX2 _)⟩, by simp [intOf]; omega⟩
  ·obtain rfl : i = G.length := by omega
   have hi2 : IxAt wr P' (delAll L G) := by have := HI.out; rwa [List.take_length] at this
   have I2 := Lib.hid hi2; have X2 := Lib.hid hX; have B2 := Lib.hid hbr
   clear hi2 HI hX hbr HDL HG
   go_wp2
   go_loopw [16] (fun vj wj => ∃ (j : Nat) (P' : Option Addr), (vj = .int .i64 j ∧ j ≤ C.length) ∧ RowV wj g 27 [.pointer P'] ∧ Hid (IxAt wj P' (putAll (delAll L G) (C.take j))) ∧ Below w.heap.size w wj ∧ Hid (ItsRead wj A2 C.length C) ∧ Hid (ItsRead wj D M.length M)) (fun vj _ => C.length - (intOf vj).toNat)
   case atStart => exact ⟨0, P', ⟨rfl, Nat.zero_le _⟩, X2.out, I2, B2.out, HC, HY⟩
   case round =>
    clear X2 I2 B2 HC HY P'
    obtain ⟨j, P', ⟨rfl, hj⟩, hX, HI, hbr, HC, HY⟩ := hrel
    by_cases hlt : j < C.length
    ·obtain ⟨x, hx⟩ : ∃ x, C[j]? = some x := ⟨_, List.getElem?_eq_getElem hlt⟩
     obtain ⟨b, o, rfl, c0, c1, c2', c3⟩ := HC.out.cells hx
     have hpt := HPT.out j x hx P'
     have HPP := Lib.hid hpt
     have hj0 : (0 : Int) ≤ (j : Int) := by omega
     have hj1 : (j : Int) < (C.length : Int) := by omega
     have x5 := hX.cell (k := 0) rfl
     have hbr2 := hbr
     have HBR := Lib.hid hbr2
     clear hpt hx hbr2
     go_upto_region 20 with fail
     go_cut [17, 18] (fun s8 s9 wx => ∃ (g' : Nat) (R : Option Addr), s8 = .pointer (some ⟨g', 0, none⟩) ∧ s9 = .int .i64 0 ∧ wr.heap.size ≤ g' ∧ RowV wx g' 27 [.pointer R] ∧ IxAt wx R (putAll (delAll L G) (C.take (j + 1))) ∧ Below wr.heap.size wr wx)
     case first =>
      go_region_held3 (fun w' => w'.cell? ⟨g, 0, none⟩ = some (.pointer P') ∧ w'.cell? ⟨b, o + j * 4, none⟩ = some (.string x.k) ∧ w'.cell? ⟨b, o + j * 4 + 1, none⟩ = some (.string x.t) ∧ w'.cell? ⟨b, o + j * 4 + 2, none⟩ = some (.int .i64 x.z) ∧ w'.cell? ⟨b, o + j * 4 + 3, none⟩ = some (.int .i64 x.r) ∧ Below wr.heap.size wr w')
       (first | (go_split_ands; refine (fun (hB : Below wr.heap.size wr _) => (⟨cell_keep hB x5, cell_keep hB c0, cell_keep hB c1, cell_keep hB c2', cell_keep hB c3, hB⟩ : _ ∧ _ ∧ _ ∧ _ ∧ _ ∧ _)) ?_; (repeat (first | exact .refl _ _ | assumption | refine .drew ?_ | refine balloc ?_ _ | refine bdrewN ?_ _ | refine .setCell ?_ (by simp <;> omega) _ | refine bstep ?_ (by assumption)))) | (refine (fun (hB : Below wr.heap.size wr _) => (⟨cell_keep hB x5, cell_keep hB c0, cell_keep hB c1, cell_keep hB c2', cell_keep hB c3, hB⟩ : _ ∧ _ ∧ _ ∧ _ ∧ _ ∧ _)) ?_; (repeat (first | exact .refl _ _ | assumption | refine .drew ?_ | refine balloc ?_ _ | refine bdrewN ?_ _ | refine .setCell ?_ (by simp <;> omega) _ | refine bstep ?_ (by assumption)))))
       (first | (go_at_call 24; go_split_ands; refine (HPP.out _ (HI.out.keep ‹_›) (bstep HBR.out ‹_›)).mono ?_; rintro e w3 ⟨R, rfl, hix, hb3⟩; first | (have hn0 : RowV w3 wr.heap.size 27 [.pointer none] := RowV.keep (w := (wr.alloc (.cells #[.pointer none] 27)).drew) (RowV.new wr 27 [.pointer none]) hb3; have n0 := hn0.cell (k := 0) rfl; have n1 := hn0.free 0) | skip))
      all_goals go_wp2_with fail
      all_goals go_meet
      ·exact ⟨_, R, rfl, rfl, by have := hb3.size; exact this, RowV.new w3 27 [.pointer R], hix.keep (balloc (Below.refl _ _) _), balloc (bstep (Below.drew (Below.refl _ _)) hb3) _⟩
      ·exact ⟨_, R, rfl, rfl, Nat.le_refl _, hn0.set_ 0 _, hix.far hn0 (by decide) 0 _, (bstep (Below.drew (balloc (Below.refl _ _) _)) hb3).setCell (by simp) _⟩
     case rest =>
      obtain ⟨g', R, rfl, rfl, hgg, hgR, hix, hbx⟩ := hcut
      have HIX := Lib.hid hix
      have hX2 := hX.keep hbx
      have y5 := hX2.cell (k := 0) rfl
      have yg := hgR.cell (k := 0) rfl
      have yf := hX2.free 0
      clear HPP c0 c1 c2' c3 x5 hix
      go_wp2
      exact ⟨⟨j + 1, R, ⟨by go_num, by omega⟩, hX2.set_ 0 _, Lib.hid (HIX.out.far hX2 (by decide) 0 _), (bstep hbr hbx).setCell (by simp; omega) _, Lib.hid ((HC.out.keep hbx).far hX2 _), Lib.hid ((HY.out.keep hbx).far hX2 _)⟩, by simp [intOf]; omega⟩
    ·obtain rfl : j = C.length := by omega
     have hi3 : IxAt wr P' M := by have := HI.out; rwa [List.take_length, HAL.out] at this
     have I3 := Lib.hid hi3
     have x5 := hX.cell (k := 0) rfl
     clear hi3 HI HPT HC HAL
     go_wp2_with (first | (go_at_call 10; refine (HSN.out _ hbr).mono ?_; clear HSN; rintro e ws ⟨rfl, hbs⟩; have x6 := cell_keep hbs x5) | (go_at_call 17; refine (HF0.out P' _ (I3.out.keep hbs)).mono ?_; clear HF0; rintro e wt ⟨A5, a5, rfl, r5, hb5⟩; have r6 := HY.out.keep (bstep hbs hb5)) | (go_at_call 12; refine (rSame15_eq _ _ _ _ _ _ _ r5 r6 (by omega)).mono ?_; clear r5 r6; rintro e wz ⟨rfl, hbz⟩))
     go_ret
     exact ⟨rfl, bstep (bstep (bstep hbr hbs) hb5) hbz⟩
end Go.Proofs.YtokfclikhfpmhaaGreatDoor
