/- The reference's Choose. -/
import Derived.Test.YtdlbfjoemabfpaaGreatDoorECY0
import Derived.Test.YtdlbfjoemabfpaaGreatDoorEQZ39
namespace Go.Proofs.YtdlbfjoemabfpaaGreatDoor
open Go.RowKit Go.Sort
set_option linter.unusedVariables false
set_option linter.unusedSimpArgs false
set_option maxRecDepth 100000
set_option maxHeartbeats 4000000 in
theorem rChoose22_any (A : Option Addr) (n c : Nat) (L : List RuleM) (a t : ByteArray) (w : World) (hL : RulesRead w A n L) (hf : RulesFit L) (ha : a.size ≤ 100000) (ht : t.size ≤ 100000) :
  Calls Tryz.prog 21 #[.slice A n c, .string a, .string t] w (Ret w (.int .i64 (chooseX L a t))) := by
 have hl : L.length = n := hL.len
 have hn : n ≤ 1000 := by have := hf.n; omega
 have cM := fun (x : RuleM) (hx : x ∈ L) (W : World) (hb : Below w.heap.size w W) => rMatches22_any x a t W ((hL.each x hx).keep hb) (hf.p x hx) (hf.t x hx) ha ht
 unfold chooseX
 obtain ⟨p, hp⟩ : ∃ p : RuleM → Bool, p = fun x => mtX x.r a t := ⟨_, rfl⟩
 have cP : ∀ x ∈ L, ∀ W, Below w.heap.size w W → Calls Tryz.prog 19 #[x.val, .string a, .string t] W (Ret W (.bool (p x))) := by
  intro x hx W hb
  rw [hp]
  exact cM x hx W hb
 rw [← hp]
 have HP := Lib.hid cP; have HA := Lib.hid hL; have HL := Lib.hid hl
 clear cM cP hp hL hl hf ha ht
 go_enter Tryz.func21, Tryz.ntmps21
 go_wp2
 go_loopw [7] (fun i wr => ∃ k : Nat, k ≤ n ∧ i = .int .i64 k ∧ Hid (idxA p L 0 = idxA p (L.drop k) k) ∧ Below w.heap.size w wr) (fun i _ => n - (intOf i).toNat)
 case atStart => exact ⟨0, by omega, rfl, Lib.hid rfl, Below.refl _ _⟩
 case round =>
  obtain ⟨k, hk, rfl, HI, hb⟩ := hrel
  by_cases hlt : k < n
  ·obtain ⟨x, hx⟩ : ∃ x, L[k]? = some x := ⟨_, List.getElem?_eq_getElem (by have := HL.out; omega)⟩
   obtain ⟨_, b, o, rfl, hcell⟩ := (HA.out.keep hb).at_ hx
   have hld := rule_load wr b (o + k * 18) x hcell
   have hc := HP.out x (List.mem_of_getElem? hx) wr hb
   have hd : L.drop k = x :: L.drop (k + 1) := by
    obtain ⟨hl2, rfl⟩ := List.getElem?_eq_some_iff.1 hx
    exact List.drop_eq_getElem_cons hl2
   have HI2 := HI.out
   rw [hd, idxA] at HI2
   have hk0 : (0 : Int) ≤ (k : Int) := by omega
   have hk1 : (k : Int) < (n : Int) := by omega
   clear hd hx HI hcell
   have HI := Lib.hid HI2
   clear HI2
   have hxv : x.val = x.val := rfl
   generalize x.val = xv at hld hc
   clear hxv
   have HLD := Lib.hid hld
   clear hld
   cases hpx : p x
   all_goals
    rw [hpx] at hc HI
    have HC := Lib.hid hc
    clear hc hpx
    go_wp2_with (first | (refine wpList_load_addr rfl _ _ rfl ⟨b, o + k * 18, none⟩ xv rfl HLD.out ?_) | (go_at_call 19; refine (HC.out).mono ?_; rintro e w2 ⟨rfl, hb2⟩))
   ·refine ⟨⟨k + 1, by omega, by go_num, Lib.hid (by have := HI.out; simpa using this), bstep hb hb2⟩, by simp [intOf]; omega⟩
   ·go_ret
    have := HI.out
    exact ⟨ret_int (by rw [this]; simp), bstep hb hb2⟩
  ·have he : idxA p L 0 = -1 := by rw [HI.out, List.drop_eq_nil_of_le (by have := HL.out; omega)]; rfl
   have HE := Lib.hid he
   clear he HI
   go_wp2
   go_ret
   exact ⟨ret_int HE.out.symm, hb⟩
end Go.Proofs.YtdlbfjoemabfpaaGreatDoor
namespace Go.Proofs.YtdlbfjoemabfpaaGreatDoor
open Go.RowKit Go.Sort
set_option linter.unusedVariables false
set_option linter.unusedSimpArgs false
set_option maxRecDepth 100000
theorem possX_len (a : ByteArray) : ∀ (L : List RuleM) (k : Nat), (possX a L k).length ≤ L.length
 | [], _ => by simp [possX]
 | x :: l, k => by
  have ih := possX_len a l (k + 1)
  unfold possX
  split
  ·split
   ·simp
   ·simp; omega
  ·simp; omega
theorem few_all {L : List RuleM} {n : Nat} {w : World} {A : Option Addr} (hL : RulesRead w A n L) (h : (L.all (fun x => fewR x.r) && decide ((n : Int) ≤ 12)) = true) : (∀ x ∈ L, RuleFits x.r) ∧ n ≤ 12 ∧ RulesFit L := by
 rw [Bool.and_eq_true, decide_eq_true_eq, List.all_eq_true] at h
 have hf : ∀ x ∈ L, RuleFits x.r := fun x hx => fewR_fits (h.1 x hx)
 refine ⟨hf, by omega, ⟨by have := hL.len; omega, fun x hx => by have := (hf x hx).pat; omega, fun x hx => by have := (hf x hx).nt; omega⟩⟩
structure RuS (g : Nat) (X : Array Value) (w0 : World) (W : World) : Prop where
 x : Box1 W g 33 X
 b : Below w0.heap.size w0 W
theorem RuS.keep {g : Nat} {X : Array Value} {w0 W W' : World} (h : RuS g X w0 W) (hb : Below W.heap.size W W') : RuS g X w0 W' := ⟨h.x.keep hb, bstep h.b hb⟩
end Go.Proofs.YtdlbfjoemabfpaaGreatDoor
namespace Go.Proofs.YtdlbfjoemabfpaaGreatDoor
open Go.RowKit Go.Sort
set_option linter.unusedVariables false
set_option linter.unusedSimpArgs false
set_option maxRecDepth 100000
set_option maxHeartbeats 8000000 in
theorem lawCh (A : Option Addr) (n c : Nat) (L : List RuleM) (ad tg : ByteArray) (w : World) (hL : RulesRead w A n L) (hn : n ≤ 9223372036854775807) (hE : LEnv w) : Calls Tryz.prog 4 #[.slice A n c, .string ad, .string tg] w (Ret w (.bool true)) := by
 have hfw := fun W (hb : Below w.heap.size w W) => rFewRules22_any (fun x => fewR x.r) A n c L 12 W (hL.keep hb) hn (fun x hx W' hb' => rFew22_any x W' ((hL.each x hx).keep (bstep hb hb')))
 have hrg := fun (h : ∀ x ∈ L, RuleFits x.r) (hn : n ≤ 12) W (hb : Below w.heap.size w W) => rRight22_any (fun x => validR x.r) A n c L W (hL.keep hb) (by omega) (fun x hx W' hb' => rValid22_any x W' ((hL.each x hx).keep (bstep hb hb')) (h x hx))
 have hfa := fun (h : (L.all (fun x => fewR x.r) && decide ((n : Int) ≤ 12)) = true) => few_all hL h
 have HF := Lib.hid hfw; have HE := Lib.hid hE
 clear hfw hE
 cases h1 : (L.all (fun x => fewR x.r) && decide ((n : Int) ≤ 12))
 ·rw [h1] at HF
  clear hrg hfa h1 hL
  go_enter Tryz.func4, Tryz.ntmps4
  have hS : Below w.heap.size w w := Below.refl _ _
  go_wp2_with (first | (go_at_call 9; refine (HF.out _ hS).mono ?_; (rintro e w' ⟨rfl, hb'⟩; replace hS := bstep hS hb'; clear hb')) | (go_at_call 10; refine (sanL _ (HE.out.keep hS)).mono ?_; (rintro e w' ⟨rfl, hb'⟩; replace hS := bstep hS hb'; clear hb')))
  go_ret
  exact ⟨rfl, hS⟩
 rw [h1] at HF
 obtain ⟨hfit, hn12, hrf⟩ := hfa h1
 have HR := Lib.hid (hrg hfit hn12)
 clear hrg hfa h1
 cases h2 : L.all (fun x => validR x.r)
 ·rw [h2] at HR
  clear h2 hL hfit hrf
  go_enter Tryz.func4, Tryz.ntmps4
  have hS : Below w.heap.size w w := Below.refl _ _
  go_wp2_with (first | (go_at_call 9; refine (HF.out _ hS).mono ?_; (rintro e w' ⟨rfl, hb'⟩; replace hS := bstep hS hb'; clear hb')) | (go_at_call 17; refine (HR.out _ hS).mono ?_; (rintro e w' ⟨rfl, hb'⟩; replace hS := bstep hS hb'; clear hb')) | (go_at_call 10; refine (sanL _ (HE.out.keep hS)).mono ?_; (rintro e w' ⟨rfl, hb'⟩; replace hS := bstep hS hb'; clear hb')))
  go_ret
  exact ⟨rfl, hS⟩
 rw [h2] at HR
 clear h2
 by_cases h3 : ad.size ≤ 300
 rotate_left
 ·have d3 : decide ((300 : Int) < (ad.size : Int)) = true := decide_eq_true (by omega)
  clear hL hfit hrf
  go_enter Tryz.func4, Tryz.ntmps4
  have hS : Below w.heap.size w w := Below.refl _ _
  go_wp2_with (first | (go_at_call 9; refine (HF.out _ hS).mono ?_; (rintro e w' ⟨rfl, hb'⟩; replace hS := bstep hS hb'; clear hb')) | (go_at_call 17; refine (HR.out _ hS).mono ?_; (rintro e w' ⟨rfl, hb'⟩; replace hS := bstep hS hb'; clear hb')) | (go_at_call 10; refine (sanL _ (HE.out.keep hS)).mono ?_; (rintro e w' ⟨rfl, hb'⟩; replace hS := bstep hS hb'; clear hb')))
  go_ret
  exact ⟨rfl, hS⟩
 have d3 : decide ((300 : Int) < (ad.size : Int)) = false := decide_eq_false (by omega)
 by_cases h4 : tg.size ≤ 300
 rotate_left
 ·have d4 : decide ((300 : Int) < (tg.size : Int)) = true := decide_eq_true (by omega)
  clear hL hfit hrf
  go_enter Tryz.func4, Tryz.ntmps4
  have hS : Below w.heap.size w w := Below.refl _ _
  go_wp2_with (first | (go_at_call 9; refine (HF.out _ hS).mono ?_; (rintro e w' ⟨rfl, hb'⟩; replace hS := bstep hS hb'; clear hb')) | (go_at_call 17; refine (HR.out _ hS).mono ?_; (rintro e w' ⟨rfl, hb'⟩; replace hS := bstep hS hb'; clear hb')) | (go_at_call 10; refine (sanL _ (HE.out.keep hS)).mono ?_; (rintro e w' ⟨rfl, hb'⟩; replace hS := bstep hS hb'; clear hb')))
  go_ret
  exact ⟨rfl, hS⟩
 have d4 : decide ((300 : Int) < (tg.size : Int)) = false := decide_eq_false (by omega)
 have hm1 := fun (x : RuleM) (hx : x ∈ L) (W : World) (hb : Below w.heap.size w W) => matches_any x ad tg W ((hL.each x hx).keep hb) (hrf.p x hx) (hrf.t x hx) (by omega) (by omega) (HE.out.e.keep hb)
 have hm2 := fun (x : RuleM) (hx : x ∈ L) (W : World) (hb : Below w.heap.size w W) => rMatches22_any x ad tg W ((hL.each x hx).keep hb) (hrf.p x hx) (hrf.t x hx) (by omega) (by omega)
 have hc1 := fun (W : World) (hb : Below w.heap.size w W) => choose_any A n c L ad tg W (hL.keep hb) hrf (by omega) (by omega) (HE.out.e.keep hb)
 have hc2 := fun (W : World) (hb : Below w.heap.size w W) => rChoose22_any A n c L ad tg W (hL.keep hb) hrf (by omega) (by omega)
 have hp1 := fun (W : World) (hb : Below w.heap.size w W) => possible_any A n c L ad W (hL.keep hb) hrf (by omega) (HE.out.e.keep hb)
 have hp2 := fun (W : World) (hb : Below w.heap.size w W) => rPossible22_any A n c L ad W (hL.keep hb) hrf (by omega)
 have hpl := possX_len ad L 0
 have hlen := hL.len
 generalize chooseX L ad tg = cv at *
 generalize possX ad L 0 = pv at *
 have HL := Lib.hid hL; have HM1 := Lib.hid hm1; have HM2 := Lib.hid hm2; have HC1 := Lib.hid hc1; have HC2 := Lib.hid hc2; have HP1 := Lib.hid hp1; have HP2 := Lib.hid hp2; have HLN := Lib.hid hlen; have HPL := Lib.hid hpl
 clear hL hm1 hm2 hc1 hc2 hp1 hp2 hlen hpl hfit hrf
 go_enter Tryz.func4, Tryz.ntmps4
 have hS : Below w.heap.size w w := Below.refl _ _
 go_wp2_with (first | (go_at_call 9; refine (HF.out _ hS).mono ?_; (rintro e w' ⟨rfl, hb'⟩; replace hS := bstep hS hb'; clear hb')) | (go_at_call 17; refine (HR.out _ hS).mono ?_; (rintro e w' ⟨rfl, hb'⟩; replace hS := bstep hS hb'; clear hb')))
 go_loopw [30] (fun iv wr => ∃ k : Nat, k ≤ n ∧ iv = .int .i64 k ∧ Below w.heap.size w wr) (fun iv _ => n - (intOf iv).toNat)
 case atStart => exact ⟨0, by omega, rfl, hS⟩
 case round =>
  obtain ⟨k, hk, rfl, hbr⟩ := hrel
  clear hS
  by_cases hlt : k < n
  ·obtain ⟨x, hx⟩ : ∃ x, L[k]? = some x := ⟨_, List.getElem?_eq_getElem (by have := HLN.out; omega)⟩
   obtain ⟨_, b, o, rfl, hcell⟩ := (HL.out.keep hbr).at_ hx
   have hld := rule_load wr b (o + k * 18) x hcell
   have hxm := List.mem_of_getElem? hx
   have hv1 := HM1.out x hxm
   have hv2 := HM2.out x hxm
   have hone : x.cells.toArray.all (·.oneCell') = true := by rw [List.all_toArray]; rfl
   have hsz2 : x.cells.toArray.size = 18 := by rw [List.size_toArray, x.cells_len]
   have hi18 : (Tryz.prog.info? 33).map (·.size) = some x.cells.toArray.size := by rw [hsz2]; exact infRule
   have hsz : x.cells.toArray.size = (#[.string ⟨#[]⟩, .string ⟨#[]⟩, .slice none 0 0, .int .i64 0, .int .i64 0, .int .i64 0, .int .i64 0, .slice none 0 0, .int .i64 0, .int .i64 0, .string ⟨#[]⟩, .slice none 0 0, .slice none 0 0, .slice none 0 0, .int .i64 0, .bool false, .int .i64 0, .string ⟨#[]⟩] : Array Value).size := by rw [hsz2]; rfl
   unfold RuleM.val at hld hv1 hv2
   generalize x.cells.toArray = X at *
   generalize mtX x.r ad tg = mv at *
   have HLD := Lib.hid hld; have HV1 := Lib.hid hv1; have HV2 := Lib.hid hv2; have HON := Lib.hid hone; have HXS := Lib.hid hsz2; have HI18 := Lib.hid hi18; have HSZ := Lib.hid hsz
   clear hld hv1 hv2 hone hsz2 hi18 hsz hcell hx hxm
   have hk0 : (0 : Int) ≤ (k : Int) := by omega
   have hk1 : (k : Int) < (n : Int) := by omega
   go_upto_region 6 with (first | (refine wpList_load_addr rfl 33 _ rfl ⟨b, o + k * 18, none⟩ (.agg X) rfl HLD.out ?_) | (refine wpList_store_row rfl 33 _ _ rfl wr.heap.size X rfl rfl _ #[.string ⟨#[]⟩, .string ⟨#[]⟩, .slice none 0 0, .int .i64 0, .int .i64 0, .int .i64 0, .int .i64 0, .slice none 0 0, .int .i64 0, .int .i64 0, .string ⟨#[]⟩, .slice none 0 0, .slice none 0 0, .slice none 0 0, .int .i64 0, .bool false, .int .i64 0, .string ⟨#[]⟩] ((heap_alloc_new wr _).trans rfl) HI18.out HSZ.out.symm HON.out ?_; generalize hw6 : World.setRow _ _ _ = w6; have B6 : Box1 w6 wr.heap.size 33 X := (by rw [← hw6]; exact setRow_heap _ _ _ _ _ _ (heap_alloc_new wr _)); have hb6 : Below wr.heap.size wr w6 := (by rw [← hw6]; exact below_setRow ((Below.refl _ _).alloc (Nat.le_refl _) _) (Nat.le_refl _) _); clear hw6))
   have HB := Lib.hid (RuS.mk (w0 := wr) B6 hb6)
   clear B6 hb6
   refine wp_det 9 (by kernel_rfl) (by kernel_rfl) (by kernel_rfl) (fun i => [.agg X, .string ad, .string tg, .bool mv, .agg X, .string ad, .string tg, .bool mv, .bool false].getD i undef) (RuS wr.heap.size X wr) (HB.out.keep (Below.drew (Below.refl _ _))) (fun _ _ h hb => h.keep hb) ?_ ?_
   ·simp only [putL, List.take_succ_cons, List.take_zero, List.drop_succ_cons, List.drop_zero, Act.put, List.setIfInBounds_toArray, List.set_cons_succ, List.set_cons_zero, List.getD_cons_zero, List.getD_cons_succ]
    refine ⟨fun W hS => ?_, fun W hS => ?_, fun W hS => ?_, fun W hS => ?_, fun W hS => ?_, fun W hS => ?_, fun W hS => ?_, fun W hS => ?_, fun W hS => ?_, trivial⟩
    all_goals
     go_wp2_with (first | (refine wpList_load_addr rfl 33 _ rfl ⟨wr.heap.size, 0, none⟩ (.agg X) rfl (hS.x.rule HXS.out) ?_) | (go_at_call 18; refine (HV1.out _ (bstep hbr hS.b)).mono ?_; rintro e w2 ⟨rfl, hb2⟩) | (go_at_call 19; refine (HV2.out _ (bstep hbr hS.b)).mono ?_; rintro e w2 ⟨rfl, hb2⟩))
     exact ⟨rfl, rfl, belB⟩
   intro w9 hS9
   simp only [putL, List.take_succ_cons, List.take_zero, List.drop_succ_cons, List.drop_zero, Act.put, List.setIfInBounds_toArray, List.set_cons_succ, List.set_cons_zero, List.getD_cons_zero, List.getD_cons_succ]
   have hb9 := bstep hbr hS9.b
   go_wp2
   exact ⟨⟨k + 1, by omega, by go_num, hb9⟩, by simp [intOf]; omega⟩
  ·have hS := hbr
   clear hbr
   go_wp2_with (first
    | (go_at_call 10; refine (sanL _ (HE.out.keep hS)).mono ?_; (rintro e w' ⟨rfl, hb'⟩; replace hS := bstep hS hb'; clear hb'))
    | (go_at_call 20; refine (HC1.out _ hS).mono ?_; (rintro e w' ⟨rfl, hb'⟩; replace hS := bstep hS hb'; clear hb'))
    | (go_at_call 21; refine (HC2.out _ hS).mono ?_; (rintro e w' ⟨rfl, hb'⟩; replace hS := bstep hS hb'; clear hb'))
    | (go_at_call 23; refine (HP1.out _ hS).mono ?_; rintro e w' ⟨A1, d1, rfl, hr1, hb'⟩; replace hS := bstep hS hb'; clear hb')
    | (go_at_call 24; refine (HP2.out _ hS).mono ?_; rintro e w' ⟨A2, d2, rfl, hr2, hb'⟩; replace hS := bstep hS hb'; replace hr1 := Reads.keep hr1 hb'; clear hb')
    | (go_at_call 22; refine (rSame22_eq A1 A2 pv.length d1 d2 pv _ hr1 hr2 (by have := HPL.out; have := HLN.out; omega)).mono ?_; (rintro e w' ⟨rfl, hb'⟩; replace hS := bstep hS hb'; clear hb')))
   go_ret
   exact ⟨rfl, hS⟩
end Go.Proofs.YtdlbfjoemabfpaaGreatDoor
namespace Go.Proofs.YtdlbfjoemabfpaaGreatDoor
open Go.RowKit Go.Sort
set_option linter.unusedVariables false
set_option linter.unusedSimpArgs false
set_option maxRecDepth 100000
section
variable {H : Type} {enc : TypeId × Value → H} {W : World} {base : Nat} {sp : Nat → Bool} {hd : Bool}
theorem slice_bound {t e : TypeId} (ht : Tryz.prog.underlying t = some (.slice e)) {A : Option Addr} {n c : Nat} {fuel : Nat} {x : DataW H × List MemPlace} (h : DataW.trod enc Tryz.prog W base sp hd fuel t [.slice A n c] = some x) : n ≤ 9223372036854775807 := by
 rcases Go.Deep.open_slice ht h with ⟨h0, _⟩ | ⟨a, len, cap, m, k, D, Pl, hcs, _, hl, hm, _⟩
 ·injection h0 with h0
  injection h0 with h1 h2 h3
  omega
 ·injection hcs with hcs
  injection hcs with h1 h2 h3
  unfold maxLen at hm
  omega
theorem open_rules {r : Reach} {b0 : Nat} {v : Value} {d : DataW H} {ps : List MemPlace} (hval : Value.okWide Tryz.prog W r b0 22 v) (h : DataW.Trod enc Tryz.prog W base sp hd 22 v d ps) :
  ∃ (A : Option Addr) (n c : Nat) (L : List RuleM), v = .slice A n c ∧ RulesRead W A n L ∧ n ≤ 9223372036854775807 := by
 obtain ⟨fuel, hf⟩ := h
 obtain ⟨A, n, c, rfl⟩ := Go.WideShapes.okWide_slice Tryz.underlying22 hval
 have hf2 : DataW.trod enc Tryz.prog W base sp hd fuel 22 [.slice A n c] = some (d, ps) := by simpa [Value.cells] using hf
 obtain ⟨A', n', c', L, he, hl, hr, hx⟩ := rows_reads (v := .slice A n c) (by decide) Tryz.underlying22 cellsRu RuleM.cells (RuleReads W) (fun a => a.cells_len) (fun f cs x hl h => rule_row hl h) hf2
 injection he with e1 e2 e3
 subst e1; subst e2; subst e3
 exact ⟨A, n, c, L, rfl, ⟨hl, hr, hx⟩, slice_bound Tryz.underlying22 hf2⟩
end
end Go.Proofs.YtdlbfjoemabfpaaGreatDoor
