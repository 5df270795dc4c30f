/- What 'sanity' returns: the examples of the document. -/
import Derived.Test.YtokfclikhfpmhaaGreatDoorIZ29
namespace Go.Proofs.YtokfclikhfpmhaaGreatDoor
open Go.RowKit Go.Sort
set_option linter.unusedVariables false
set_option linter.unusedSimpArgs false
set_option maxRecDepth 100000
theorem s10 : tagsV [(⟨#[98]⟩ : ByteArray), (⟨#[97]⟩ : ByteArray), (⟨#[98]⟩ : ByteArray)] = .tuple #[.string (⟨#[97, 44, 98]⟩ : ByteArray), .int .i64 0] := by
 have h : tagsR [(⟨#[98]⟩ : ByteArray), (⟨#[97]⟩ : ByteArray), (⟨#[98]⟩ : ByteArray)] = ((⟨#[97, 44, 98]⟩ : ByteArray), 0) := by
  unfold tagsR
  rw [t10, if_neg (by decide +kernel), if_neg (by decide)]
  rfl
 unfold tagsV
 rw [h]
end Go.Proofs.YtokfclikhfpmhaaGreatDoor
namespace Go.Proofs.YtokfclikhfpmhaaGreatDoor
open Go.RowKit Go.Sort
set_option linter.unusedVariables false
set_option linter.unusedSimpArgs false
set_option maxRecDepth 100000
def eqI (x y : It) : Bool := (x.k.toList == y.k.toList) && ((x.t.toList == y.t.toList) && ((x.z == y.z) && (x.r == y.r)))
theorem eqI_iff {x y : It} : eqI x y = true ↔ x = y := by
 unfold eqI
 simp only [Bool.and_eq_true, beq_dec, decide_eq_true_eq, beq_iff_eq]
 constructor
 ·rintro ⟨h1, h2, h3, h4⟩
  obtain ⟨k, t, z, r⟩ := x
  obtain ⟨k', t', z', r'⟩ := y
  simp at *
  exact ⟨h1, h2, h3, h4⟩
 ·rintro rfl; exact ⟨rfl, rfl, rfl, rfl⟩
theorem eqI_in (x y : It) (w : World) : (Op.equalIn 10000 41 (.agg #[.string x.k, .string x.t, .int .i64 x.z, .int .i64 x.r]) (.agg #[.string y.k, .string y.t, .int .i64 y.z, .int .i64 y.r])).run Tryz.prog w = .ok (eqI x y) w := by
 unfold eqI
 simp [go_sem]
 by_cases h1 : x.k.toList = y.k.toList
 ·by_cases h2 : x.t.toList = y.t.toList
  ·by_cases h3 : x.z = y.z
   ·by_cases h4 : x.r = y.r
    ·simp [h1, h2, h3, h4]
    ·simp [h1, h2, h3, h4]
   ·simp [h1, h2, h3]
  ·simp [h1, h2]
 ·simp [h1]
theorem item_eql (x y : It) (w : World) : (binOp .eql 41 (.agg #[.string x.k, .string x.t, .int .i64 x.z, .int .i64 x.r]) (.agg #[.string y.k, .string y.t, .int .i64 y.z, .int .i64 y.r])).run Tryz.prog w = .ok (.bool (eqI x y)) w := by
 rw [run_eql_struct, eqI_in]; rfl
theorem item_neq (x y : It) (w : World) : (binOp .neq 41 (.agg #[.string x.k, .string x.t, .int .i64 x.z, .int .i64 x.r]) (.agg #[.string y.k, .string y.t, .int .i64 y.z, .int .i64 y.r])).run Tryz.prog w = .ok (.bool (!eqI x y)) w := by
 rw [run_neq_struct, eqI_in]; rfl
theorem filter_at (U : It → Bool) : ∀ {L : List It} {i : Nat} {x : It}, L[i]? = some x → U x = true → (L.filter U)[((L.take i).filter U).length]? = some x
 | y :: l, 0, x, h, hU => by
  simp only [List.getElem?_cons_zero, Option.some.injEq] at h
  subst h
  rw [List.filter_cons_of_pos hU]
  simp
 | y :: l, i + 1, x, h, hU => by
  have ih := filter_at U (L := l) (i := i) (x := x) (by simpa using h) hU
  rw [List.take_succ_cons]
  by_cases hy : U y = true
  ·rw [List.filter_cons_of_pos hy, List.filter_cons_of_pos hy, List.length_cons, List.getElem?_cons_succ]
   exact ih
  ·rw [List.filter_cons_of_neg hy, List.filter_cons_of_neg hy]
   exact ih
theorem filter_next (U : It → Bool) {L : List It} {i : Nat} {x : It} (h : L[i]? = some x) : ((L.take (i + 1)).filter U).length = ((L.take i).filter U).length + (if U x then 1 else 0) := by
 rw [List.take_add_one, h, List.filter_append]
 cases hU : U x <;> simp [hU]
theorem any_next {R : List It} {x y : It} {n : Nat} (h : R[n]? = some y) : ((R.take (n + 1)).any fun z => eqI z x) = ((R.take n).any (fun z => eqI z x) || eqI y x) := by
 rw [List.take_add_one, h]
 simp
theorem mem_any {R : List It} {x : It} (h : x ∈ R) : (R.any fun z => eqI z x) = true := List.any_eq_true.2 ⟨x, h, eqI_iff.2 rfl⟩
theorem rTag_mem {L : List It} {x : It} {tg : ByteArray} (hx : x ∈ L) (ht : tg ∈ (splitR x.t).1) : x ∈ L.filter (rTagB (parseB (adrT x.k)).1.cust tg) := by
 refine List.mem_filter.2 ⟨hx, ?_⟩
 unfold rTagB hasTagB
 rw [decide_eq_true rfl, Bool.true_and]
 exact (Lib.containsS_iff _ _).2 ht
end Go.Proofs.YtokfclikhfpmhaaGreatDoor
namespace Go.Proofs.YtokfclikhfpmhaaGreatDoor
open Go.RowKit Go.Sort
set_option linter.unusedVariables false
set_option linter.unusedSimpArgs false
set_option maxRecDepth 100000
theorem from_nil (L : List It) : ixFrom L ⟨#[]⟩ = L := by
 unfold ixFrom
 rw [List.filter_eq_self]
 intro y _
 have : ltB y.k ⟨#[]⟩ = false := by
  unfold ltB
  simp
 rw [this]; rfl
theorem take_100 {L : List It} (h : L.length ≤ 40) : takeI 100 (ixFrom L ⟨#[]⟩) = L := by
 rw [from_nil]
 unfold takeI
 rw [List.take_of_length_le]
 simp; omega
end Go.Proofs.YtokfclikhfpmhaaGreatDoor
namespace Go.Proofs.YtokfclikhfpmhaaGreatDoor
open Go.RowKit Go.Sort
set_option linter.unusedVariables false
set_option linter.unusedSimpArgs false
set_option maxRecDepth 100000
attribute [local go_sem high] item_eql item_neq
set_option maxHeartbeats 8000000 in
theorem lawFindsAll15 (A : Option Addr) (n c : Nat) (os : List OpI) (p : ByteArray) (w : World) (hA : OpsRead w A n os) (hn : n ≤ 9223372036854775807) (hE : Env w) (hK : Ks w) : Calls Tryz.prog 4 #[.slice A n c, .string p] w (Ret w (.bool true)) := by
 have hfw := fun W (hb : Below w.heap.size w W) => few15_any A n c os W (hA.keep hb) hn
 have hsn := fun W (hb : Below w.heap.size w W) => sanity15_any W (Env.keep hE hb) (hK.keep hb)
 have hmd := fun (hf : fewO os = true) W (hb : Below w.heap.size w W) => made15_any A n c os W (hA.keep hb) hf (Env.keep hE hb) (hK.keep hb)
 have HFW := Lib.hid hfw; have HSN := Lib.hid hsn; have HMD := Lib.hid hmd; have HE := Lib.hid hE
 clear hfw hsn hmd hA hE hK
 cases hf : fewO os
 ·rw [hf] at HFW
  clear HMD
  go_enter Tryz.func4, Tryz.ntmps4; go_wp2_with (first | (go_at_call 9; refine (HFW.out _ belB).mono ?_; rintro e wf ⟨rfl, hbf⟩) | (go_at_call 10; refine (HSN.out _ belB).mono ?_; rintro e ws ⟨rfl, hbs⟩)); go_ret; exact ⟨rfl, belB⟩
 by_cases h1 : p.size ≤ 300
 rotate_left
 ·have h1b : (300 : Int) < (p.size : Int) := by omega
  rw [hf] at HFW
  clear HMD
  go_enter Tryz.func4, Tryz.ntmps4; go_wp2_with (first | (go_at_call 9; refine (HFW.out _ belB).mono ?_; rintro e wf ⟨rfl, hbf⟩) | (go_at_call 10; refine (HSN.out _ belB).mono ?_; rintro e ws ⟨rfl, hbs⟩)); go_ret; exact ⟨rfl, belB⟩
 have h1b : ¬ (300 : Int) < (p.size : Int) := by omega
 obtain ⟨hgd, hsz⟩ := few_good hf
 have hmd := HMD.out hf
 unfold MadeP at hmd
 obtain ⟨L, hL⟩ : ∃ L, L = opsS os := ⟨_, rfl⟩
 rw [← hL] at hmd hgd hsz
 rw [hf] at HFW
 have hl40 := hgd.len
 have hf0 := fun P W (h : IxAt W P L) => ixFrom_any P L ⟨#[]⟩ 100 W h hgd.up (by omega)
 rw [take_100 hl40] at hf0
 have hun := fun P W (h : IxAt W P L) (hb : Below w.heap.size w W) => ixUnder_any P L p W h hgd.up (by omega) (fun x hx => (hsz x hx).1) (by omega) (Env.keep HE.out hb)
 rw [under_list hgd.up hgd.ok] at hun
 have htg := fun cu tg P W (h : IxAt W P L) (hb : Below w.heap.size w W) => ixTagged_any P L cu tg W h hgd.up (by omega) hsz (Env.keep HE.out hb)
 have htg2 : ∀ cu tg P W, IxAt W P L → Below w.heap.size w W → Calls Tryz.prog 15 #[.agg #[.pointer P], .string cu, .string tg] W (ItsPost (L.filter (rTagB cu tg)) W) := fun cu tg P W h hb => by
  have := htg cu tg P W h hb
  rwa [tag_list hgd.up hgd.ok] at this
 obtain ⟨U, hU⟩ : ∃ U : It → Bool, U = fun x => underB p (adrT x.k) := ⟨_, rfl⟩
 rw [← hU] at hun
 have hua : ∀ x ∈ L, ∀ W, Below w.heap.size w W → Calls Tryz.prog 19 #[.string p, .string (adrT x.k)] W (Ret W (.bool (U x))) := fun x hx W hb => by
  rw [hU]
  have h2 : (adrT x.k).size ≤ x.k.size := adr_size x.k
  have h3 := (hsz x hx).1
  exact under_any p (adrT x.k) W (by omega) (by omega) (Env.keep HE.out hb)
 have had : ∀ x ∈ L, ∀ W, Calls Tryz.prog 18 #[.string x.k] W (Ret W (.tuple #[.string (adrT x.k), .string (restT x.k), .bool true])) := fun x hx W => by
  have h3 := (hsz x hx).1
  have := rAddr15_any x.k W (by omega)
  rwa [adrV_eq, (valid_adr (hgd.ok x hx)).1] at this
 have hpa : ∀ x ∈ L, ∀ W, Below w.heap.size w W → Calls Tryz.prog 20 #[.string (adrT x.k)] W fun e w' => ∃ B na ca D nb cb, e = .returned (.tuple #[.agg #[.string (parseB (adrT x.k)).1.cust, .slice B na ca, .slice D nb cb], .int .i64 0]) ∧ Below W.heap.size W w' := fun x hx W hb => by
  have h2 : (adrT x.k).size ≤ x.k.size := adr_size x.k
  have h3 := (hsz x hx).1
  have h4 := valid_adr (hgd.ok x hx)
  refine (parse_any (adrT x.k) W (by omega) (Env.keep HE.out hb)).mono ?_
  rintro e w' ⟨hb, B, ca, D, cb, rfl, _⟩
  refine ⟨B, (parseB (adrT x.k)).1.path.length, ca, D, (parseB (adrT x.k)).1.query.length, cb, ?_, hb⟩
  rw [show (parseB (adrT x.k)).2 = 0 by rw [valid_adrT (hgd.ok x hx)]; exact (read_text h4.2.1).1]
 have hsp : ∀ x ∈ L, ∀ W, Below w.heap.size w W → Calls Tryz.prog 21 #[.string x.t] W fun e w' => ∃ B c, e = .returned (.tuple #[.slice B (splitR x.t).1.length c, .int .i64 0]) ∧ Reads w' 1 B (splitR x.t).1.length ((splitR x.t).1.map .string) ∧ Below W.heap.size W w' := fun x hx W hb => by
  refine (addrSplit_any x.t W (hsz x hx).2 (Env.keep HE.out hb)).mono ?_
  rintro e w' ⟨hb, B, c, rfl, hr⟩
  refine ⟨B, c, ?_, hr, hb⟩
  rw [(valid_adr (hgd.ok x hx)).2.2]
 have hlt : ∀ cu tg, (L.filter (rTagB cu tg)).length ≤ 1000000 := fun cu tg => Nat.le_trans (List.length_filter_le _ _) (by omega)
 have hlu : (L.filter U).length ≤ 1000000 := Nat.le_trans (List.length_filter_le _ _) (by omega)
 have hts : ∀ x ∈ L, (splitR x.t).1.length ≤ 300000 := fun x hx => by
  have h1 := splitR_len x.t
  have h2 := (hsz x hx).2
  omega
 have HM := Lib.hid hmd; have HF0 := Lib.hid hf0; have HU := Lib.hid hun; have HT := Lib.hid htg2; have HUA := Lib.hid hua; have HAD := Lib.hid had; have HPA := Lib.hid hpa; have HSP := Lib.hid hsp; have HLT := Lib.hid hlt; have HTS := Lib.hid hts
 clear hmd hf0 hun htg htg2 hua had hpa hsp hlt hts HMD hgd hsz hL h1 hf hU HE
 go_enter Tryz.func4, Tryz.ntmps4
 go_upto_region 6 with (first | (go_at_call 9; refine (HFW.out _ belB).mono ?_; rintro e wf ⟨rfl, hbf⟩) | (go_at_call 11; refine (HM.out _ belB).mono ?_; rintro e wm ⟨P, B, c2, rfl, hix, -, hbm⟩))
 have hX := RowV.new wm 27 [.pointer P]
 have hix4 := hix.keep (balloc (Below.refl _ _) (.cells #[.pointer P] 27))
 have hb4 : Below w.heap.size w (wm.alloc (.cells #[.pointer P] 27)) := balloc belB _
 generalize hw4 : wm.alloc (.cells #[.pointer P] 27) = w4 at *
 generalize wm.heap.size = g at *
 have HIX := Lib.hid hix4
 clear hw4 hix4 hix hbm hbf HM HFW
 have x0 := hX.cell (k := 0) rfl
 go_upto_region 9 with (first | (go_at_call 17; refine (HF0.out P _ HIX.out).mono ?_; rintro e w5 ⟨A1, a1, rfl, r1, hb5⟩; clear HF0 x0; have x0 := (hX.keep hb5).cell (k := 0) rfl) | (go_at_call 13; refine (HU.out P _ (HIX.out.keep hb5) (bstep hb4 hb5)).mono ?_; rintro e w6 ⟨A2, a2, rfl, r2, hb6⟩; clear HU))
 have hb56 := bstep hb5 hb6
 have R1 := Lib.hid (r1.keep hb6); have R2 := Lib.hid r2; have HI6 := Lib.hid (HIX.out.keep hb56); have HX6 := Lib.hid (hX.keep hb56); have HB6 := Lib.hid (bstep hb4 hb56)
 clear r1 r2 HIX hX hb5 hb6 hb56 hb4 x0
 have hnl : L.length ≤ 40 := hl40
 go_wp2
 go_loopw [10, 11] (fun vk vi wr => ∃ i k : Nat, (vi = .int .i64 i ∧ vk = .int .i64 k ∧ i ≤ L.length) ∧ Hid (k = ((L.take i).filter U).length) ∧ Below w6.heap.size w6 wr) (fun _ i _ => L.length - (intOf i).toNat)
 case atStart => exact ⟨0, 0, ⟨rfl, rfl, Nat.zero_le _⟩, Lib.hid (by simp), Below.refl _ _⟩
 case round =>
  obtain ⟨i, k, ⟨rfl, rfl, hi⟩, HKI, hbr⟩ := hrel
  by_cases hlt : i < L.length
  ·obtain ⟨x, hx⟩ : ∃ x, L[i]? = some x := ⟨_, List.getElem?_eq_getElem hlt⟩
   have hxm := List.mem_of_getElem? hx
   have hbw := bstep HB6.out hbr
   obtain ⟨b1, o1, rfl, c0, c1, c2', c3⟩ := (R1.out.keep hbr).cells hx
   have had := HAD.out x hxm
   have hua := HUA.out x hxm
   have hpa := HPA.out x hxm
   have hsp := HSP.out x hxm
   have hts := HTS.out x hxm
   have hnx := filter_next U hx
   have AD := Lib.hid had; have UA := Lib.hid hua; have PA := Lib.hid hpa; have SP := Lib.hid hsp; have TS := Lib.hid hts; have NX := Lib.hid hnx; have XM := Lib.hid hxm; have HX := Lib.hid hx
   have hi0 : (0 : Int) ≤ (i : Int) := by omega
   have hi1 : (i : Int) < (L.length : Int) := by omega
   clear had hua hpa hsp hts hnx HAD HUA HPA HSP HTS hxm hx
   obtain ⟨cu, hcu⟩ : ∃ cu, cu = (parseB (adrT x.k)).1.cust := ⟨_, rfl⟩
   obtain ⟨T, hT⟩ : ∃ T, T = (splitR x.t).1 := ⟨_, rfl⟩
   rw [← hcu] at PA
   rw [← hT] at SP TS
   have HCU := Lib.hid hcu; have HTT := Lib.hid hT
   clear hcu hT
   go_upto_if 65 with (first | (go_at_call 18; refine (AD.out _).mono ?_; rintro e wa ⟨rfl, hba⟩; clear AD) | (go_at_call 19; refine (UA.out _ (bstep hbw hba)).mono ?_; rintro e wu ⟨rfl, hbu⟩; clear UA))
   have hbru := bstep (bstep hbr hba) hbu
   clear c0 c1 c2' c3 hbw hba hbu hbr
   go_cut [10] (fun s10 wx => ∃ k' : Nat, s10 = .int .i64 k' ∧ Hid (k' = ((L.take (i + 1)).filter U).length) ∧ Below w6.heap.size w6 wx)
   case first =>
    cases hUx : U x
    ·go_wp2_with fail
     go_meet
     exact ⟨k, rfl, Lib.hid (by rw [NX.out, hUx, HKI.out]; simp), hbru⟩
    ·have hat := filter_at U HX.out hUx
     rw [← HKI.out] at hat
     have hkl := (List.getElem?_eq_some_iff.1 hat).1
     have hkl2 : (L.filter U).length ≤ 1000000 := hlu
     obtain ⟨b2, o2, rfl, e0, e1, e2, e3⟩ := (R2.out.keep hbru).cells hat
     obtain ⟨c0, c1, c2', c3⟩ := (R1.out.keep hbru).cells_at HX.out
     have k1 := cell_regrown c0; have k2 := cell_regrown c1; have k3 := cell_regrown c2'; have k4 := cell_regrown c3
     have k5 := cell_regrown e0; have k6 := cell_regrown e1; have k7 := cell_regrown e2; have k8 := cell_regrown e3
     have hk0 : (0 : Int) ≤ (k : Int) := by omega
     have hk1 : (k : Int) < ((L.filter U).length : Int) := by omega
     have hge : decide (((L.filter U).length : Int) ≤ (k : Int)) = false := by simp; omega
     have hge2 : decide ((L.filter U).length ≤ k) = false := by simp; omega
     have hge3 : ¬ (L.filter U).length ≤ k := by omega
     have hge4 : ¬ ((L.filter U).length : Int) ≤ (k : Int) := by omega
     have hee : eqI x x = true := eqI_iff.2 rfl
     have hK2 : k + 1 = ((L.take (i + 1)).filter U).length := by rw [NX.out, hUx, HKI.out]; simp
     have HK2 := Lib.hid hK2
     clear hat hUx hK2 hkl hkl2 c0 c1 c2' c3 e0 e1 e2 e3
     go_upto_region 16 with fail
     refine wp_region_quiet_below (by kernel_rfl) (by kernel_rfl) ?_; (repeat (any_goals (first | go_big_quiet_step (fail) | quiet_step (fail)))); refine wpQuiet_nil ?_; intro _ hwq; obtain ⟨⟨dq, osq⟩, hwq⟩ := hwq; subst hwq; have hbq := below_regrown (wu) dq osq; generalize grow (redrawn (wu) dq) osq = wq at *
     go_wp2_with fail
     go_meet
     exact ⟨k + 1, by go_num, HK2, bstep hbru hbq⟩
   case rest =>
    obtain ⟨k', rfl, HK', hbx⟩ := hcut
    clear HKI NX hbru
    have hbw2 := bstep HB6.out hbx
    go_upto_region 20 with (go_at_call 20; refine (PA.out _ hbw2).mono ?_; rintro e wp ⟨B1, na, ca, D1, nb, cb, rfl, hbp⟩; clear PA)
    have hY := RowV.new wp 46 [.string cu, .slice B1 na ca, .slice D1 nb cb]
    have hb7 : Below w6.heap.size w6 (wp.alloc (.cells #[.string cu, .slice B1 na ca, .slice D1 nb cb] 46)) := balloc (bstep hbx hbp) _
    generalize hw7 : wp.alloc (.cells #[.string cu, .slice B1 na ca, .slice D1 nb cb] 46) = w7 at *
    generalize wp.heap.size = g7 at *
    clear hw7 hbp hbx hbw2
    obtain ⟨c0, c1, c2', c3⟩ := (R1.out.keep hb7).cells_at HX.out
    clear c0 c2' c3
    go_upto_region 23 with (go_at_call 21; refine (SP.out _ (bstep HB6.out hb7)).mono ?_; rintro e w8 ⟨B3, c8, rfl, r8, hb8⟩; clear SP)
    have HY := Lib.hid (hY.keep hb8); have R8 := Lib.hid r8; have hb68 := bstep hb7 hb8
    clear hY r8 hb7 hb8 c1
    have htl : T.length ≤ 300000 := TS.out
    go_wp2
    go_loopw [19] (fun vj wj => ∃ j : Nat, vj = .int .i64 j ∧ j ≤ T.length ∧ Below w8.heap.size w8 wj) (fun vj _ => T.length - (intOf vj).toNat)
    case atStart => exact ⟨0, rfl, Nat.zero_le _, Below.refl _ _⟩
    case round =>
     obtain ⟨j, rfl, hj, hbj⟩ := hrel
     obtain ⟨wj, rfl⟩ : ∃ x, x = wr := ⟨_, rfl⟩
     by_cases hjt : j < T.length
     ·obtain ⟨tg, htg⟩ : ∃ tg, T[j]? = some tg := ⟨_, List.getElem?_eq_getElem hjt⟩
      obtain ⟨b3, o3, u3, rfl, hu3, t0⟩ := (R8.out.keep hbj).at_ hjt
      obtain ⟨tg', htg', rfl⟩ := strs_at hu3
      rw [htg] at htg'
      injection htg' with htg'
      subst htg'
      have hrm := rTag_mem XM.out (show tg ∈ (splitR x.t).1 by rw [← HTT.out]; exact List.mem_of_getElem? htg)
      rw [← HCU.out] at hrm
      have hb6j := bstep hb68 hbj
      have ht := fun W (h : IxAt W P L) (hb : Below w.heap.size w W) => HT.out cu tg P W h hb
      have hlr := HLT.out cu tg
      obtain ⟨RT, hRT⟩ : ∃ RT, RT = L.filter (rTagB cu tg) := ⟨_, rfl⟩
      rw [← hRT] at ht hrm hlr
      have TT := Lib.hid ht; have RM := Lib.hid hrm
      have x0 := (HX6.out.keep hb6j).cell (k := 0) rfl
      have y0 := (HY.out.keep hbj).cell (k := 0) rfl
      have hj0 : (0 : Int) ≤ (j : Int) := by omega
      have hj1 : (j : Int) < (T.length : Int) := by omega
      clear ht hrm hRT htg hu3
      go_upto_region 27 with fail
      go_cut [21] (fun s21 wx => ∃ (A4 : Option Addr) (a4 : Nat), s21 = .slice A4 RT.length a4 ∧ ItsRead wx A4 RT.length RT ∧ Below wj.heap.size wj wx)
      case first =>
       go_region_held3 (fun w' => w'.cell? ⟨g, 0, none⟩ = some (.pointer P) ∧ w'.cell? ⟨g7, 0, none⟩ = some (.string cu) ∧ w'.cell? ⟨b3, o3 + j, none⟩ = some (.string tg) ∧ Below wj.heap.size wj w')
        (first | (go_split_ands; refine (fun (hB : Below wj.heap.size wj _) => (⟨cell_keep hB x0, cell_keep hB y0, cell_keep hB t0, hB⟩ : _ ∧ _ ∧ _ ∧ _)) ?_; (repeat (first | exact .refl _ _ | assumption | refine .drew ?_ | refine balloc ?_ _ | refine bdrewN ?_ _ | refine .setCell ?_ (by simp <;> omega) _ | refine bstep ?_ (by assumption)))) | (refine (fun (hB : Below wj.heap.size wj _) => (⟨cell_keep hB x0, cell_keep hB y0, cell_keep hB t0, hB⟩ : _ ∧ _ ∧ _ ∧ _)) ?_; (repeat (first | exact .refl _ _ | assumption | refine .drew ?_ | refine balloc ?_ _ | refine bdrewN ?_ _ | refine .setCell ?_ (by simp <;> omega) _ | refine bstep ?_ (by assumption)))))
        (first | (go_at_call 15; go_split_ands; refine (TT.out _ (HI6.out.keep (bstep hb6j ‹_›)) (bstep (bstep HB6.out hb6j) ‹_›)).mono ?_; rintro e wt ⟨A4, a4, rfl, r4, hbt⟩))
       all_goals go_wp2_with fail
       all_goals go_meet
       all_goals exact ⟨A4, a4, rfl, by first | assumption | (go_split_ands; assumption), by first | assumption | (go_split_ands; assumption)⟩
      case rest =>
       obtain ⟨A4, a4, rfl, r4, hb4⟩ := hcut
       have R4 := Lib.hid r4
       clear r4 x0 y0 t0
       have hb6c := bstep hb6j hb4
       clear TT HT HI6 HX6 HY R8
       go_wp2
       go_loopw [20, 22] (fun vf vm wm => ∃ m : Nat, vm = .int .i64 m ∧ vf = .bool ((RT.take m).any fun z => eqI z x) ∧ m ≤ RT.length ∧ Below wc.heap.size wc wm) (fun _ vm _ => RT.length - (intOf vm).toNat)
       case atStart => exact ⟨0, rfl, by simp, Nat.zero_le _, Below.refl _ _⟩
       case round =>
        obtain ⟨m, rfl, rfl, hm, hbm⟩ := hrel
        obtain ⟨wn, rfl⟩ : ∃ x, x = wr := ⟨_, rfl⟩
        have hb6n := bstep hb6c hbm
        by_cases hml : m < RT.length
        ·obtain ⟨y, hy⟩ : ∃ y, RT[m]? = some y := ⟨_, List.getElem?_eq_getElem hml⟩
         have han := any_next (x := x) hy
         obtain ⟨b4, o4, rfl, e0, e1, e2, e3⟩ := (R4.out.keep hbm).cells hy
         obtain ⟨c0, c1, c2', c3⟩ := (R1.out.keep hb6n).cells_at HX.out
         have k1 := cell_regrown c0; have k2 := cell_regrown c1; have k3 := cell_regrown c2'; have k4 := cell_regrown c3
         have k5 := cell_regrown e0; have k6 := cell_regrown e1; have k7 := cell_regrown e2; have k8 := cell_regrown e3
         have hm0 : (0 : Int) ≤ (m : Int) := by omega
         have hm1 : (m : Int) < (RT.length : Int) := by omega
         generalize hfd : (RT.take m).any (fun z => eqI z x) = fd at *
         have HAN := Lib.hid han
         clear han hy c0 c1 c2' c3 e0 e1 e2 e3 hfd
         cases fd
         ·go_upto_region 31 with fail
          refine wp_region_quiet_below (by kernel_rfl) (by kernel_rfl) ?_; (repeat (any_goals (first | go_big_quiet_step (fail) | quiet_step (fail)))); refine wpQuiet_nil ?_; intro _ hwq; obtain ⟨⟨dq, osq⟩, hwq⟩ := hwq; subst hwq; have hbq := below_regrown (wn) dq osq; generalize grow (redrawn (wn) dq) osq = wq at *
          have hb9 := bstep hbm hbq
          clear k1 k2 k3 k4 k5 k6 k7 k8 hbq
          go_wp2
          exact ⟨⟨m + 1, by go_num, by rw [HAN.out]; simp, by omega, hb9⟩, by simp [intOf]; omega⟩
         ·go_upto_region 31 with fail
          refine wp_region_quiet_below (by kernel_rfl) (by kernel_rfl) ?_; (repeat (any_goals (first | go_big_quiet_step (fail) | quiet_step (fail)))); refine wpQuiet_nil ?_; intro _ hwq; obtain ⟨⟨dq, osq⟩, hwq⟩ := hwq; subst hwq; have hbq := below_regrown (wn) dq osq; generalize grow (redrawn (wn) dq) osq = wq at *
          have hb9 := bstep hbm hbq
          clear k1 k2 k3 k4 k5 k6 k7 k8 hbq
          go_wp2
          exact ⟨⟨m + 1, by go_num, by rw [HAN.out]; simp, by omega, hb9⟩, by simp [intOf]; omega⟩
        ·obtain rfl : m = RT.length := by omega
         have hfa : (RT.take RT.length).any (fun z => eqI z x) = true := by rw [List.take_length]; exact mem_any RM.out
         generalize (RT.take RT.length).any (fun z => eqI z x) = fd at *
         subst hfa
         clear R4 R1 R2
         go_wp2
         exact ⟨⟨j + 1, by go_num, by omega, bstep (bstep hbj hb4) hbm⟩, by simp [intOf]; omega⟩
     ·obtain rfl : j = T.length := by omega
      clear HT HI6 HX6 HY R8 R1 R2
      go_wp2
      exact ⟨⟨i + 1, k', ⟨by go_num, rfl, by omega⟩, HK', bstep hb68 hbj⟩, by simp [intOf]; omega⟩
  ·obtain rfl : i = L.length := by omega
   have hkk : (k : Int) = ((L.filter U).length : Int) := by rw [HKI.out, List.take_length]
   clear HT HUA HAD HPA HSP HLT HTS R1 R2 HI6 HX6 HKI
   go_wp2_with (go_at_call 10; refine (HSN.out _ (bstep HB6.out hbr)).mono ?_; rintro e ws ⟨rfl, hbs⟩)
   go_ret
   exact ⟨rfl, bstep (bstep HB6.out hbr) hbs⟩
end Go.Proofs.YtokfclikhfpmhaaGreatDoor
