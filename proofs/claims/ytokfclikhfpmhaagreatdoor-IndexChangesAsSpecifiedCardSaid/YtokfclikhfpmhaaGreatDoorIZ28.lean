/- The specification's Same, Under, Tagged. -/
import Derived.Test.YtokfclikhfpmhaaGreatDoorIZ21
import Derived.Test.YtokfclikhfpmhaaGreatDoorIZ26
import Derived.Test.YtokfclikhfpmhaaGreatDoorIZ25
import Derived.Test.YtokfclikhfpmhaaGreatDoorProg
import Derived.WalkKit
import Derived.WalkSpells
import Derived.WalkLawsBesides
import Derived.Below
import Derived.Deep.QuietTactic
import Derived.BigQuiet
import Derived.Lib.QuietBelow
import Derived.Lib.Strings
import Derived.Lib.Hide
import Derived.Deep.RegionWith
import Derived.Deep.RegionHeld3
import Derived.Lib.IndexBytes
import Derived.Test.YtokfclikhfpmhaaGreatDoorIZ27
import Derived.Test.YtokfclikhfpmhaaGreatDoorIZ19
namespace Go.Proofs.YtokfclikhfpmhaaGreatDoor
open Go.RowKit Go.Sort
set_option linter.unusedVariables false
set_option linter.unusedSimpArgs false
set_option maxRecDepth 100000
set_option maxHeartbeats 4000000 in
theorem rSame15_eq (A B : Option Addr) (n c c2 : Nat) (L : List It) (w : World) (hA : ItsRead w A n L) (hB : ItsRead w B n L) (hn : n ≤ 1000000) : Calls Tryz.prog 12 #[.slice A n c, .slice B n c2] w (Ret w (.bool true)) := by
  have hl : n ≤ L.length ∧ L.length ≤ n := by have := hA.len; omega
  have HA := Lib.hid hA
  have HB := Lib.hid hB
  clear hA hB
  go_enter Tryz.func12, Tryz.ntmps12
  go_wp2
  go_loopw [5] (fun vi wr => ∃ k : Nat, vi = .int .i64 k ∧ k ≤ n ∧ Below w.heap.size w wr) (fun i _ => n - (intOf i).toNat)
  case atStart => exact ⟨0, rfl, Nat.zero_le _, Below.refl _ _⟩
  case round =>
    obtain ⟨k, rfl, hk, hbr⟩ := hrel
    by_cases hlt : k < n
    · obtain ⟨x, hx⟩ : ∃ x, L[k]? = some x := ⟨_, List.getElem?_eq_getElem (by omega)⟩
      obtain ⟨b, o, rfl, c0, c1, c2, c3⟩ := (HA.out.keep hbr).cells hx
      obtain ⟨b2, o2, rfl, d0, d1, d2, d3⟩ := (HB.out.keep hbr).cells hx
      have hk0 : (0 : Int) ≤ (k : Int) := by omega
      have hk1 : (k : Int) < (n : Int) := by omega
      have k0 := cell_regrown c0; have k1 := cell_regrown c1; have k2 := cell_regrown c2; have k3 := cell_regrown c3
      have m0 := cell_regrown d0; have m1 := cell_regrown d1; have m2 := cell_regrown d2; have m3 := cell_regrown d3
      clear hx
      go_upto_region 6 with fail
      refine wp_region_quiet_below (by kernel_rfl) (by kernel_rfl) ?_; (repeat (any_goals (first | go_big_quiet_step (fail) | quiet_step (fail)))); refine wpQuiet_nil ?_; intro _ hwq; obtain ⟨⟨dq, osq⟩, hwq⟩ := hwq; subst hwq; have hbq := below_regrown (wr) dq osq; generalize grow (redrawn (wr) dq) osq = wq at *
      go_wp2
      exact ⟨⟨k + 1, by go_num, by omega, belB⟩, by simp [intOf]; omega⟩
    · obtain rfl : k = n := by omega
      go_wp2
      go_ret
      exact ⟨rfl, hbr⟩
set_option maxHeartbeats 4000000 in
theorem rUnder15_any (A : Option Addr) (n c : Nat) (L : List It) (pr : ByteArray) (w : World) (hA : ItsRead w A n L) (hn : n ≤ 1000000) (hk : ∀ x ∈ L, x.k.size ≤ 100000) (hp : pr.size ≤ 100000) :
    Calls Tryz.prog 14 #[.slice A n c, .string pr] w (ItsPost (L.filter fun x => underB pr (adrT x.k)) w) := by
  have hl : n ≤ L.length ∧ L.length ≤ n := by have := hA.len; omega
  obtain ⟨i0, hi0, hz0, hz1, hz2⟩ := info_parts infoItem
  have HI : Hid ((Tryz.prog.info? 41 = some i0) ∧ i0.zero = some (.agg #[.string ⟨#[]⟩, .string ⟨#[]⟩, .int .i64 0, .int .i64 0]) ∧ i0.size = 4 ∧ i0.bytes = 48) := Lib.hid ⟨hi0, hz0, hz1, hz2⟩
  have HA := Lib.hid hA
  clear hi0 hz0 hz1 hz2 hA
  have HKS := Lib.hid hk
  clear hk
  obtain ⟨p, hpp⟩ : ∃ p : It → Bool, p = fun x => underB pr (adrT x.k) := ⟨_, rfl⟩
  have HPP := Lib.hid (show ∀ x, p x = underB pr (adrT x.k) from fun x => by rw [hpp])
  rw [← hpp]
  clear hpp
  go_enter Tryz.func14, Tryz.ntmps14
  go_wp2
  go_loopw [5, 6] (fun va vi wr => ∃ (k m : Nat) (acc : List It) (A' : Option Addr) (c' : Nat), (vi = .int .i64 k ∧ va = .slice A' m c' ∧ k ≤ n ∧ m ≤ k) ∧ Hid ((L.take k).filter p = acc ∧ acc.length = m) ∧ wr.ownsRow w.heap.size 41 4 (.slice A' m c') m (itsC acc) ∧ Below w.heap.size w wr) (fun _ i _ => n - (intOf i).toNat)
  case atStart => exact ⟨0, 0, [], none, 0, ⟨rfl, rfl, Nat.zero_le _, Nat.le_refl _⟩, Lib.hid ⟨by simp, rfl⟩, World.ownsRow_nil _ _ _ _, Below.refl _ _⟩
  case round =>
    obtain ⟨k, m, acc, A', c', ⟨rfl, rfl, hk, hm⟩, HK, hown, hbr⟩ := hrel
    have hbs := hbr.size
    by_cases hlt : k < n
    · skip
      obtain ⟨x, hx⟩ : ∃ x, L[k]? = some x := ⟨_, List.getElem?_eq_getElem (by omega)⟩
      obtain ⟨b, o, rfl, c0, c1, c2, c3⟩ := (HA.out.keep hbr).cells hx
      have hk0 : (0 : Int) ≤ (k : Int) := by omega
      have hk1 : (k : Int) < (n : Int) := by omega
      have htk := take_at hx
      have hml := HK.out.2
      have hks := HKS.out x (List.mem_of_getElem? hx)
      have had := fun W => rAddr15_any x.k W (by omega)
      simp only [adrV_eq] at had
      have hun := fun W => rUnder_any pr (adrT x.k) W (by omega) (by have := adr_size x.k; omega)
      rw [← HPP.out x] at hun
      have HX := Lib.hid hx
      have HAD := Lib.hid had
      cases hpx : p x
      · rw [hpx] at hun
        have HUN := Lib.hid hun
        have hv : (L.take (k + 1)).filter p = acc ∧ acc.length = m := ⟨by rw [htk, ← HK.out.1]; simp [List.filter_append, hpx], hml⟩
        have HV := Lib.hid hv
        clear hx HK hv htk hml had hun
        go_wp2_with (first | (go_at_call 18; refine (HAD.out _).mono ?_; rintro e w1 ⟨rfl, hb1⟩; have hbr1 := bstep hbr hb1) | (go_at_call 40; refine (HUN.out _).mono ?_; rintro e w2 ⟨rfl, hb2⟩; have hbr2 := bstep hbr1 hb2))
        exact ⟨⟨k + 1, m, acc, A', c', ⟨by go_num, rfl, by omega, by omega⟩, HV, ownsRow_keep (ownsRow_keep hown hb1) hb2, hbr2⟩, by simp [intOf]; omega⟩
      · rw [hpx] at hun
        have HUN := Lib.hid hun
        have hv : (L.take (k + 1)).filter p = acc ++ [x] ∧ (acc ++ [x]).length = m + 1 := ⟨by rw [htk, ← HK.out.1]; simp [List.filter_append, hpx], by simp [hml]⟩
        have HV := Lib.hid hv
        clear hx HK hv htk hml had hun
        go_wp2_with (first | (go_at_call 18; refine (HAD.out _).mono ?_; rintro e w1 ⟨rfl, hb1⟩; have hbr1 := bstep hbr hb1) | (go_at_call 40; refine (HUN.out _).mono ?_; rintro e w2 ⟨rfl, hb2⟩; have hown2 := ownsRow_keep (ownsRow_keep hown hb1) hb2; clear hown; have hown := hown2; have hbr2 := bstep hbr1 hb2; clear hbr hbs; have hbr := hbr2; have hbs := hbr.size; clear c0 c1 c2 c3; obtain ⟨c0, c1, c2, c3⟩ := (HA.out.keep hbr).cells_at HX.out; clear hown2 hbr2 hbr1 hb1 hb2; obtain ⟨wr, rfl⟩ : ∃ x : World, x = w2 := ⟨_, rfl⟩) | (at_builtin; refine wpList_append_own _ rfl _ _ 28 rfl w.heap.size 41 i0 (.agg #[.string ⟨#[]⟩, .string ⟨#[]⟩, .int .i64 0, .int .i64 0]) 4 48 Tryz.underlying28 HI.out.1 HI.out.2.1 HI.out.2.2.1 HI.out.2.2.2 rfl (by decide) _ _ _ rfl (hown.alloc _) ⟨wr.heap.size, 0, none⟩ 1 1 [.string x.k, .string x.t, .int .i64 x.z, .int .i64 x.r] rfl rfl (World.news_of_block (cs := #[.string x.k, .string x.t, .int .i64 x.z, .int .i64 x.r]) (t := 41) (fr := (0, 0)) (World.alloc_heap_new wr _)) (by simp [Value.oneCell']) (by unfold maxLen; omega) (by omega) (by simp; omega) ?_; intro v' w3 hown1 hgrow1 _; obtain ⟨g1, cap1, rfl⟩ := ownsRow_succ hown1; have hb3 : Below w.heap.size w w3 := (hbr.alloc hbs _).grown hgrow1 (by simp; omega) (fun r e => by have := ownsRow_block hown r e; omega)))
        exact ⟨⟨k + 1, m + 1, acc ++ [x], some ⟨g1, 0, none⟩, cap1, ⟨by go_num, rfl, by omega, by omega⟩, HV, by rw [itsC_app, itsC_one]; exact hown1, hb3⟩, by simp [intOf]; omega⟩
    · obtain rfl : k = n := by omega
      have hv : L.filter p = acc ∧ acc.length = m := by
        have := HK.out
        rwa [List.take_of_length_le (by omega)] at this
      have HV := Lib.hid hv
      clear HK hv
      go_wp2
      go_ret
      rw [HV.out.1]
      exact ⟨A', c', by rw [HV.out.2]; rfl, by rw [HV.out.2]; exact its_own hown HV.out.2, hbr⟩
def rTagB (cu tg : ByteArray) (x : It) : Bool := decide ((parseB (adrT x.k)).1.cust = cu) && hasTagB x.t tg
theorem run_fieldR1 (c : ByteArray) (A B : Option Addr) (na ca nb cb : Nat) (e : Int) (w : World) : (Instr.field 83 (.agg #[.string c, .slice A na ca, .slice B nb cb, .int .i64 e]) 0).run Tryz.prog w = .ok (.agg #[.string c, .slice A na ca, .slice B nb cb]) w := by
  first | kernel_rfl | rfl | simp [Instr.field, part, go_sem, Tryz.underlying83]
theorem run_fieldA (c : ByteArray) (A B : Option Addr) (na ca nb cb : Nat) (w : World) : (Instr.field 46 (.agg #[.string c, .slice A na ca, .slice B nb cb]) 0).run Tryz.prog w = .ok (.string c) w := by
  first | kernel_rfl | rfl | simp [Instr.field, part, go_sem, Tryz.underlying46]
set_option maxHeartbeats 4000000 in
theorem rTagged15_any (A : Option Addr) (n c : Nat) (L : List It) (cu tg : ByteArray) (w : World) (hA : ItsRead w A n L) (hn : n ≤ 1000000) (hk : ∀ x ∈ L, x.k.size ≤ 100000 ∧ x.t.size ≤ 100000) :
    Calls Tryz.prog 16 #[.slice A n c, .string cu, .string tg] w (ItsPost (L.filter (rTagB cu tg)) w) := by
  have hl : n ≤ L.length ∧ L.length ≤ n := by have := hA.len; omega
  obtain ⟨i0, hi0, hz0, hz1, hz2⟩ := info_parts infoItem
  have HI : Hid ((Tryz.prog.info? 41 = some i0) ∧ i0.zero = some (.agg #[.string ⟨#[]⟩, .string ⟨#[]⟩, .int .i64 0, .int .i64 0]) ∧ i0.size = 4 ∧ i0.bytes = 48) := Lib.hid ⟨hi0, hz0, hz1, hz2⟩
  have HA := Lib.hid hA
  clear hi0 hz0 hz1 hz2 hA
  have HKS := Lib.hid hk
  clear hk
  obtain ⟨p, hpp⟩ : ∃ p : It → Bool, p = rTagB cu tg := ⟨_, rfl⟩
  have HPP := Lib.hid (show ∀ x, p x = (decide ((parseB (adrT x.k)).1.cust = cu) && hasTagB x.t tg) from fun x => by rw [hpp]; rfl)
  rw [← hpp]
  clear hpp
  go_enter Tryz.func16, Tryz.ntmps16
  go_wp2
  go_loopw [7, 8] (fun va vi wr => ∃ (k m : Nat) (acc : List It) (A' : Option Addr) (c' : Nat), (vi = .int .i64 k ∧ va = .slice A' m c' ∧ k ≤ n ∧ m ≤ k) ∧ Hid ((L.take k).filter p = acc ∧ acc.length = m) ∧ wr.ownsRow w.heap.size 41 4 (.slice A' m c') m (itsC acc) ∧ Below w.heap.size w wr) (fun _ i _ => n - (intOf i).toNat)
  case atStart => exact ⟨0, 0, [], none, 0, ⟨rfl, rfl, Nat.zero_le _, Nat.le_refl _⟩, Lib.hid ⟨by simp, rfl⟩, World.ownsRow_nil _ _ _ _, Below.refl _ _⟩
  case round =>
    obtain ⟨k, m, acc, A', c', ⟨rfl, rfl, hk, hm⟩, HK, hown, hbr⟩ := hrel
    have hbs := hbr.size
    by_cases hlt : k < n
    · skip
      obtain ⟨x, hx⟩ : ∃ x, L[k]? = some x := ⟨_, List.getElem?_eq_getElem (by omega)⟩
      obtain ⟨b, o, rfl, c0, c1, c2, c3⟩ := (HA.out.keep hbr).cells hx
      have hk0 : (0 : Int) ≤ (k : Int) := by omega
      have hk1 : (k : Int) < (n : Int) := by omega
      have htk := take_at hx
      have hml := HK.out.2
      have hks := HKS.out x (List.mem_of_getElem? hx)
      have had := fun W => rAddr15_any x.k W (by have := hks.1; omega)
      simp only [adrV_eq] at had
      have hpa := fun W => rParse_any (adrT x.k) W (by have := adr_size x.k; have := hks.1; omega)
      have htg := fun W => rHasTag_any x.t tg W hks.2
      have hpx0 := HPP.out x
      unfold RReadPost at hpa
      have HX := Lib.hid hx
      have HAD := Lib.hid had
      have HPA := Lib.hid hpa; have HTG := Lib.hid htg
      clear hpa htg had
      have HV2 := Lib.hid (show (p x = false → (L.take (k + 1)).filter p = acc ∧ acc.length = m) ∧ (p x = true → (L.take (k + 1)).filter p = acc ++ [x] ∧ (acc ++ [x]).length = m + 1) from
        ⟨fun hpx => ⟨by rw [htk, ← HK.out.1]; simp [List.filter_append, hpx], hml⟩, fun hpx => ⟨by rw [htk, ← HK.out.1]; simp [List.filter_append, hpx], by simp [hml]⟩⟩)
      clear hx HK htk hml
      generalize parseB (adrT x.k) = prs at *
      obtain ⟨⟨pcu, pps, pqs⟩, per⟩ := prs
      dsimp only at hpx0 HPA
      generalize hasTagB x.t tg = hht at *
      by_cases hcu : pcu = cu
      · have hq : (pcu.toList == cu.toList) = true := by rw [hcu]; simp
        cases hht
        · have HV := Lib.hid (HV2.out.1 (by rw [hpx0]; simp))
          clear hpx0 HV2 hcu
          go_wp2_with (first | (go_at_call 18; refine (HAD.out _).mono ?_; rintro e w1 ⟨rfl, hb1⟩; have hbr1 := bstep hbr hb1) | (go_at_call 43; refine (HPA.out _).mono ?_; rintro e w2 ⟨hb2, PA, pc, PB, pd, rfl, _⟩; have hbr2 := bstep hbr1 hb2; clear c1; have c1 := ((HA.out.keep hbr2).cells_at HX.out).2.1))
          (rw [run_fieldR1]; go_wp2_with fail; (try (rw [run_fieldA])))
          go_wp2_with (go_at_call 44; refine (HTG.out _).mono ?_; rintro e w4 ⟨rfl, hb4⟩)
          exact ⟨⟨k + 1, m, acc, A', c', ⟨by go_num, rfl, by omega, by omega⟩, HV, ownsRow_keep (ownsRow_keep (ownsRow_keep hown hb1) hb2) hb4, bstep hbr2 hb4⟩, by simp [intOf]; omega⟩
        · have HV := Lib.hid (HV2.out.2 (by rw [hpx0, decide_eq_true hcu]; rfl))
          clear hpx0 HV2 hcu
          go_wp2_with (first | (go_at_call 18; refine (HAD.out _).mono ?_; rintro e w1 ⟨rfl, hb1⟩; have hbr1 := bstep hbr hb1) | (go_at_call 43; refine (HPA.out _).mono ?_; rintro e w2 ⟨hb2, PA, pc, PB, pd, rfl, _⟩; have hbr2 := bstep hbr1 hb2; clear c1; have c1 := ((HA.out.keep hbr2).cells_at HX.out).2.1))
          (rw [run_fieldR1]; go_wp2_with fail; (try (rw [run_fieldA])))
          go_wp2_with (first | ((go_at_call 44; refine (HTG.out _).mono ?_; rintro e w4 ⟨rfl, hb4⟩); have hown2 := ownsRow_keep (ownsRow_keep (ownsRow_keep hown hb1) hb2) hb4; clear hown; have hown := hown2; have hbr4 := bstep hbr2 hb4; clear hbr hbs; have hbr := hbr4; have hbs := hbr.size; clear c0 c1 c2 c3; obtain ⟨c0, c1, c2, c3⟩ := (HA.out.keep hbr).cells_at HX.out; clear hown2 hbr4 hbr2 hbr1 hb1 hb2 hb4; obtain ⟨wr, rfl⟩ : ∃ x : World, x = w4 := ⟨_, rfl⟩) | (at_builtin; refine wpList_append_own _ rfl _ _ 28 rfl w.heap.size 41 i0 (.agg #[.string ⟨#[]⟩, .string ⟨#[]⟩, .int .i64 0, .int .i64 0]) 4 48 Tryz.underlying28 HI.out.1 HI.out.2.1 HI.out.2.2.1 HI.out.2.2.2 rfl (by decide) _ _ _ rfl (hown.alloc _) ⟨wr.heap.size, 0, none⟩ 1 1 [.string x.k, .string x.t, .int .i64 x.z, .int .i64 x.r] rfl rfl (World.news_of_block (cs := #[.string x.k, .string x.t, .int .i64 x.z, .int .i64 x.r]) (t := 41) (fr := (0, 0)) (World.alloc_heap_new wr _)) (by simp [Value.oneCell']) (by unfold maxLen; omega) (by omega) (by simp; omega) ?_; intro v' w3 hown1 hgrow1 _; obtain ⟨g1, cap1, rfl⟩ := ownsRow_succ hown1; have hb3 : Below w.heap.size w w3 := (hbr.alloc hbs _).grown hgrow1 (by simp; omega) (fun r e => by have := ownsRow_block hown r e; omega)))
          exact ⟨⟨k + 1, m + 1, acc ++ [x], some ⟨g1, 0, none⟩, cap1, ⟨by go_num, rfl, by omega, by omega⟩, HV, by rw [itsC_app, itsC_one]; exact hown1, hb3⟩, by simp [intOf]; omega⟩
      · have hq : (pcu.toList == cu.toList) = false := by rw [beq_dec]; simpa using hcu
        have hq2 : ¬ pcu.toList = cu.toList := by simpa using hq
        have HV := Lib.hid (HV2.out.1 (by rw [hpx0, decide_eq_false hcu]; rfl))
        clear hpx0 HV2 hcu
        go_wp2_with (first | (go_at_call 18; refine (HAD.out _).mono ?_; rintro e w1 ⟨rfl, hb1⟩; have hbr1 := bstep hbr hb1) | (go_at_call 43; refine (HPA.out _).mono ?_; rintro e w2 ⟨hb2, PA, pc, PB, pd, rfl, _⟩; have hbr2 := bstep hbr1 hb2; clear c1; have c1 := ((HA.out.keep hbr2).cells_at HX.out).2.1))
        (rw [run_fieldR1]; go_wp2_with fail; (try (rw [run_fieldA])))
        go_wp2
        exact ⟨⟨k + 1, m, acc, A', c', ⟨by go_num, rfl, by omega, by omega⟩, HV, ownsRow_keep (ownsRow_keep hown hb1) hb2, hbr2⟩, by simp [intOf]; omega⟩
    · obtain rfl : k = n := by omega
      have hv : L.filter p = acc ∧ acc.length = m := by
        have := HK.out
        rwa [List.take_of_length_le (by omega)] at this
      have HV := Lib.hid hv
      clear HK hv
      go_wp2
      go_ret
      rw [HV.out.1]
      exact ⟨A', c', by rw [HV.out.2]; rfl, by rw [HV.out.2]; exact its_own hown HV.out.2, hbr⟩
end Go.Proofs.YtokfclikhfpmhaaGreatDoor
namespace Go.Proofs.YtokfclikhfpmhaaGreatDoor
open Go.RowKit Go.Sort
set_option linter.unusedVariables false
set_option linter.unusedSimpArgs false
set_option maxRecDepth 100000
def opC (o : OpI) : List Value := [.bool o.del, .string o.it.k, .string o.it.t, .int .i64 o.it.z, .int .i64 o.it.r]
def opsC (l : List OpI) : List Value := l.flatMap opC
theorem opsC_len : ∀ l : List OpI, (opsC l).length = l.length * 5
  | [] => rfl
  | x :: l => by rw [opsC, List.flatMap_cons, List.length_append, ← opsC, opsC_len l]; simp [opC]; omega
theorem opsC_at : ∀ (l : List OpI) (i j : Nat) (x : OpI), l[i]? = some x → j < 5 → (opsC l)[5 * i + j]? = (opC x)[j]?
  | [], i, j, x, h, hj => by simp at h
  | y :: l, 0, j, x, h, hj => by
    simp only [List.getElem?_cons_zero, Option.some.injEq] at h
    subst h
    rw [opsC, List.flatMap_cons, List.getElem?_append_left (by simp [opC]; omega)]
    simp
  | y :: l, i + 1, j, x, h, hj => by
    rw [opsC, List.flatMap_cons, ← opsC, List.getElem?_append_right (by simp [opC]; omega)]
    rw [← opsC_at l i j x (by simpa using h) hj]
    congr 1
    simp [opC]; omega
structure OpsRead (w : World) (A : Option Addr) (n : Nat) (L : List OpI) : Prop where
  len : L.length = n
  rows : Reads w 5 A n (opsC L)
theorem OpsRead.keep {w w' : World} {A : Option Addr} {n : Nat} {L : List OpI} (h : OpsRead w A n L) (hb : Below w.heap.size w w') : OpsRead w' A n L := ⟨h.len, h.rows.keep hb⟩
theorem OpsRead.cells {w : World} {A : Option Addr} {n k : Nat} {L : List OpI} {x : OpI} (h : OpsRead w A n L) (hk : L[k]? = some x) :
    ∃ b o, A = some ⟨b, o, none⟩ ∧ w.cell? ⟨b, o + k * 5, none⟩ = some (.bool x.del) ∧ w.cell? ⟨b, o + k * 5 + 1, none⟩ = some (.string x.it.k) ∧ w.cell? ⟨b, o + k * 5 + 2, none⟩ = some (.string x.it.t) ∧ w.cell? ⟨b, o + k * 5 + 3, none⟩ = some (.int .i64 x.it.z) ∧ w.cell? ⟨b, o + k * 5 + 4, none⟩ = some (.int .i64 x.it.r) := by
  have hkl : k < L.length := (List.getElem?_eq_some_iff.1 hk).1
  obtain ⟨b, o, e, hc⟩ := h.rows.2 (by have := h.len; omega)
  have hh := fun j u (hj : j < 5) (hu : (opC x)[j]? = some u) => hc (5 * k + j) u (by rw [opsC_at L k j x hk hj]; exact hu)
  refine ⟨b, o, e, ?_, ?_, ?_, ?_, ?_⟩
  · rw [show o + k * 5 = o + (5 * k + 0) by omega]; exact hh 0 _ (by omega) rfl
  · rw [show o + k * 5 + 1 = o + (5 * k + 1) by omega]; exact hh 1 _ (by omega) rfl
  · rw [show o + k * 5 + 2 = o + (5 * k + 2) by omega]; exact hh 2 _ (by omega) rfl
  · rw [show o + k * 5 + 3 = o + (5 * k + 3) by omega]; exact hh 3 _ (by omega) rfl
  · rw [show o + k * 5 + 4 = o + (5 * k + 4) by omega]; exact hh 4 _ (by omega) rfl
theorem OpsRead.cells_at {w : World} {b o n k : Nat} {L : List OpI} {x : OpI} (h : OpsRead w (some ⟨b, o, none⟩) n L) (hk : L[k]? = some x) :
    w.cell? ⟨b, o + k * 5, none⟩ = some (.bool x.del) ∧ w.cell? ⟨b, o + k * 5 + 1, none⟩ = some (.string x.it.k) ∧ w.cell? ⟨b, o + k * 5 + 2, none⟩ = some (.string x.it.t) ∧ w.cell? ⟨b, o + k * 5 + 3, none⟩ = some (.int .i64 x.it.z) ∧ w.cell? ⟨b, o + k * 5 + 4, none⟩ = some (.int .i64 x.it.r) := by
  obtain ⟨b', o', e, h0⟩ := h.cells hk
  injection e with e
  injection e with e1 e2 _
  subst e1; subst e2
  exact h0
def smallI (x : It) : Bool := decide (x.k.size ≤ 300) && decide (x.t.size ≤ 300)
def fewO (os : List OpI) : Bool := (os.all fun o => smallI o.it) && decide (os.length ≤ 40)
set_option maxHeartbeats 2000000 in
theorem few15_any (A : Option Addr) (n c : Nat) (os : List OpI) (w : World) (hA : OpsRead w A n os) (hn : n ≤ 9223372036854775807) : Calls Tryz.prog 9 #[.slice A n c] w (Ret w (.bool (fewO os))) := by
  have hl : n ≤ os.length ∧ os.length ≤ n := by have := hA.len; omega
  have HA := Lib.hid hA
  clear hA
  obtain ⟨V, hV⟩ : ∃ V, V = fewO os := ⟨_, rfl⟩
  rw [← hV]
  have HV := Lib.hid hV
  clear hV
  go_enter Tryz.func9, Tryz.ntmps9
  go_wp2
  go_loopw [3] (fun vi wr => ∃ k : Nat, vi = .int .i64 k ∧ k ≤ n ∧ Hid ((os.take k).all (fun o => smallI o.it) = true) ∧ Below w.heap.size w wr) (fun i _ => n - (intOf i).toNat)
  case atStart => exact ⟨0, rfl, Nat.zero_le _, Lib.hid (by simp), Below.refl _ _⟩
  case round =>
    obtain ⟨k, rfl, hk, HK, hbr⟩ := hrel
    by_cases hlt : k < n
    · obtain ⟨x, hx⟩ : ∃ x, os[k]? = some x := ⟨_, List.getElem?_eq_getElem (by omega)⟩
      obtain ⟨b, o, rfl, c0, c1, c2, c3, c4⟩ := (HA.out.keep hbr).cells hx
      have hk0 : (0 : Int) ≤ (k : Int) := by omega
      have hk1 : (k : Int) < (n : Int) := by omega
      have hxm := List.mem_of_getElem? hx
      have hbad : smallI x.it = false → V = false := fun h => by
        rw [HV.out]
        unfold fewO
        rw [Bool.and_eq_false_iff]
        left
        rw [List.all_eq_false]
        exact ⟨x, hxm, by rw [h]; simp⟩
      by_cases h1 : x.it.k.size ≤ 300
      · have h1b : ¬ (300 : Int) < (x.it.k.size : Int) := by omega
        by_cases h2 : x.it.t.size ≤ 300
        · have h2b : ¬ (300 : Int) < (x.it.t.size : Int) := by omega
          have htk : (os.take (k + 1)).all (fun o => smallI o.it) = true := by
            rw [List.take_add_one, hx]
            simp only [Option.toList_some, List.all_append, HK.out, List.all_cons, List.all_nil, Bool.and_true, Bool.true_and]
            simp [smallI, h1, h2]
          have HTK := Lib.hid htk
          clear hx hxm hbad htk HK h1 h2 c0 c3 c4
          go_wp2
          exact ⟨⟨k + 1, by go_num, by omega, HTK, hbr⟩, by simp [intOf]; omega⟩
        · have h2b : (300 : Int) < (x.it.t.size : Int) := by omega
          have HB := Lib.hid (hbad (by simp [smallI, h2]))
          clear hx hxm hbad HK h1 h2 c0 c3 c4
          go_wp2
          go_ret
          exact ⟨ret_bool HB.out.symm, hbr⟩
      · have h1b : (300 : Int) < (x.it.k.size : Int) := by omega
        have HB := Lib.hid (hbad (by simp [smallI, h1]))
        clear hx hxm hbad HK h1 c0 c3 c4
        go_wp2
        go_ret
        exact ⟨ret_bool HB.out.symm, hbr⟩
    · obtain rfl : k = n := by omega
      have hv : V = decide (k ≤ 40) := by
        rw [HV.out]
        unfold fewO
        have h := HK.out
        rw [List.take_of_length_le (by omega)] at h
        rw [h, Bool.true_and, HA.out.len]
      have HV2 := Lib.hid hv
      clear hv HK
      go_wp2
      go_ret
      exact ⟨ret_bool (by rw [HV2.out]; simp; omega), hbr⟩
end Go.Proofs.YtokfclikhfpmhaaGreatDoor
namespace Go.Proofs.YtokfclikhfpmhaaGreatDoor
open Go.RowKit Go.Sort
set_option linter.unusedVariables false
set_option linter.unusedSimpArgs false
set_option maxRecDepth 100000
theorem ItsRead.far {w : World} {A : Option Addr} {n : Nat} {L : List It} {g : Nat} {s : TypeId} {P : Option Addr} (h : ItsRead w A n L) (hg : RowV w g s [.pointer P]) (v : Value) : ItsRead (w.setCell ⟨g, 0, none⟩ v) A n L := by
  refine ⟨h.len, ?_⟩
  rcases Nat.eq_zero_or_pos n with h0 | h0
  · subst h0
    have := h.len
    have e : L = [] := List.eq_nil_of_length_eq_zero this
    subst e
    exact Reads.nil_ _ _ _
  · refine h.rows.set_ _ _ fun a ha => ?_
    obtain ⟨b, o, e, hc⟩ := h.rows.2 h0
    rw [e] at ha
    injection ha with ha
    subst ha
    intro hbg
    obtain ⟨x, l, rfl⟩ : ∃ x l, L = x :: l := by
      cases L with
      | nil => have := h.len; simp at this; omega
      | cons x l => exact ⟨x, l, rfl⟩
    have h1 := hc 0 (.string x.k) rfl
    have hbg2 : b = g := hbg
    subst hbg2
    rw [cell_of_row w b (o + 0) _ s _ hg] at h1
    rw [Nat.add_zero] at h1
    cases o with
    | zero => simp at h1
    | succ o => simp at h1
theorem IxAt.far {w : World} {A : Option Addr} {L : List It} {g : Nat} {s : TypeId} {ds : List Value} (h : IxAt w A L) (hg : RowV w g s ds) (hs : s ≠ 114) (k : Nat) (v : Value) : IxAt (w.setCell ⟨g, k, none⟩ v) A L :=
  let ⟨t, h1, h2, h3⟩ := h; ⟨t, NodeAt.far hg hs k v h1, h2, h3⟩
def MadeP (os : List OpI) (w : World) (e : Ending) (w' : World) : Prop := ∃ A B c, e = .returned (.tuple #[.agg #[.pointer A], .slice B (opsS os).length c, .bool true]) ∧ IxAt w' A (opsS os) ∧ ItsRead w' B (opsS os).length (opsS os) ∧ Below w.heap.size w w'
theorem ops_take {os : List OpI} {k : Nat} {x : OpI} (hx : os[k]? = some x) : opsS (os.take (k + 1)) = opS (opsS (os.take k)) x := by
  unfold opsS
  rw [List.take_add_one, hx]
  simp
theorem ops_good : ∀ (os : List OpI) (k : Nat), k ≤ os.length → LGood k (opsS (os.take k))
  | os, 0, _ => by simpa [opsS] using LGood.nil
  | os, k + 1, h => by
    obtain ⟨x, hx⟩ : ∃ x, os[k]? = some x := ⟨_, List.getElem?_eq_getElem (by omega)⟩
    rw [ops_take hx]
    exact (ops_good os k (by omega)).op x
set_option maxHeartbeats 8000000 in
theorem made15_any (A : Option Addr) (n c : Nat) (os : List OpI) (w : World) (hA : OpsRead w A n os) (hf : fewO os = true) (hE : Env w) (hK : Ks w) : Calls Tryz.prog 11 #[.slice A n c] w (MadeP os w) := by
  have hl : n ≤ os.length ∧ os.length ≤ n := by have := hA.len; omega
  have hn40 : n ≤ 40 ∧ ∀ o ∈ os, o.it.k.size ≤ 300 ∧ o.it.t.size ≤ 300 := by
    unfold fewO at hf
    simp only [Bool.and_eq_true, decide_eq_true_eq, List.all_eq_true] at hf
    refine ⟨by omega, fun o ho => ?_⟩
    have := hf.1 o ho
    unfold smallI at this
    simpa using this
  obtain ⟨hn40, hsm⟩ := hn40
  have hgd := fun k (hk : k ≤ n) => ops_good os k (by omega)
  have HA := Lib.hid hA; have HSM := Lib.hid hsm; have HE := Lib.hid hE; have HK := Lib.hid hK; have HGD := Lib.hid hgd
  have hnew := fun W => new_any W
  have HNW := Lib.hid hnew
  clear hA hsm hE hK hgd hf hnew
  have hr0 := RowV.new w 27 [.pointer none]
  have HR0 := Lib.hid hr0
  clear hr0
  go_enter Tryz.func11, Tryz.ntmps11
  go_upto_region 2 with (go_at_call 22; refine (HNW.out _).mono ?_; rintro e w1 ⟨rfl, hb1⟩; have hR1 := HR0.out.keep hb1; have hbw1 : Below w.heap.size w w1 := belB; clear hb1)
  have hR2 := hR1.alloc (.cells #[.pointer none] 27)
  have hX2 := RowV.new w1 27 [.pointer none]
  have hb2 : Below w.heap.size w (w1.alloc (.cells #[.pointer none] 27)) := balloc hbw1 _
  have hg5 : w.heap.size < w1.heap.size := hR1.lt
  generalize hw2 : w1.alloc (.cells #[.pointer none] 27) = w2 at *
  generalize w1.heap.size = g5 at *
  have HR2 := Lib.hid hR2; have HX2 := Lib.hid hX2; have HB2 := Lib.hid hb2
  clear hw2 hR1 hbw1 hR2 hX2 hb2 HR0
  go_wp2
  go_loopw [6, 7] (fun vw vi wr => ∃ (k m c' : Nat) (P B : Option Addr), (vi = .int .i64 k ∧ vw = .slice B m c' ∧ k ≤ n) ∧ Hid (m = (opsS (os.take k)).length) ∧ RowV wr w.heap.size 27 [.pointer none] ∧ RowV wr g5 27 [.pointer P] ∧ Hid (IxAt wr P (opsS (os.take k))) ∧ Hid (ItsRead wr B m (opsS (os.take k))) ∧ Below w.heap.size w wr) (fun _ i _ => n - (intOf i).toNat)
  case atStart => exact ⟨0, 0, 0, none, none, ⟨rfl, rfl, Nat.zero_le _⟩, Lib.hid rfl, HR2.out, HX2.out, Lib.hid (IxAt.nil_ _), Lib.hid (ItsRead.nil_ _ _), HB2.out⟩
  case round =>
    clear HR2 HX2 HB2
    obtain ⟨k, m, c', P, B, ⟨rfl, rfl, hk⟩, HM, hR, hX, HI, HL, hbr⟩ := hrel
    by_cases hlt : k < n
    · obtain ⟨x, hx⟩ : ∃ x, os[k]? = some x := ⟨_, List.getElem?_eq_getElem (by omega)⟩
      obtain ⟨b, o, rfl, c0, c1, c2, c3, c4⟩ := (HA.out.keep hbr).cells hx
      have hk0 : (0 : Int) ≤ (k : Int) := by omega
      have hk1 : (k : Int) < (n : Int) := by omega
      have hgd := HGD.out k hk
      have hot := ops_take hx
      have hsx := HSM.out x (List.mem_of_getElem? hx)
      have hm40 : m ≤ 40 := by have := hgd.len; rw [← HM.out] at this; omega
      obtain ⟨L, hL⟩ : ∃ L, L = opsS (os.take k) := ⟨_, rfl⟩
      rw [← hL] at HM HI HL hgd hot
      have HGL := Lib.hid hgd; have HOT := Lib.hid hot
      have x5 := hX.cell (k := 0) rfl
      clear hx hgd hot hL
      cases hdel : x.del
      · have hpt := fun W (h : IxAt W P L) (hb : Below w.heap.size w W) => ixPut_any P L x.it W h HGL.out.up (by have := HGL.out.len; omega) (by omega) (by omega) (Env.keep HE.out hb) (HK.out.keep hb)
        have hrp := fun W (h : ItsRead W B m L) => rPut15_any B m c' L x.it W h (by omega) HGL.out.up (fun W => rValid15_any x.it W (by omega) (by omega))
        have HPTT := Lib.hid hpt; have HRP := Lib.hid hrp
        clear hpt hrp
        obtain ⟨pr, hpr⟩ : ∃ pr, pr = ixPutS L x.it := ⟨_, rfl⟩
        unfold IxPutP PutPost at *
        rw [← hpr] at HPTT HRP
        obtain ⟨pl, pe⟩ := pr
        dsimp only at HPTT HRP
        have hop : opsS (os.take (k + 1)) = pl := by rw [HOT.out]; unfold opS; rw [hdel, ← hpr]; rfl
        have HOP := Lib.hid hop
        clear hpr hop
        go_upto_region 13 with fail
        go_cut [12, 13] (fun s8 s9 wx => ∃ (g : Nat) (Q : Option Addr), s8 = .pointer (some ⟨g, 0, none⟩) ∧ s9 = .int .i64 pe ∧ wr.heap.size ≤ g ∧ RowV wx g 27 [.pointer Q] ∧ IxAt wx Q pl ∧ Below wr.heap.size wr wx)
        case first =>
          go_region_held3 (fun w' => w'.cell? ⟨g5, 0, none⟩ = some (.pointer P) ∧ w'.cell? ⟨b, o + k * 5 + 1, none⟩ = some (.string x.it.k) ∧ w'.cell? ⟨b, o + k * 5 + 1 + 1, none⟩ = some (.string x.it.t) ∧ w'.cell? ⟨b, o + k * 5 + 1 + 2, none⟩ = some (.int .i64 x.it.z) ∧ w'.cell? ⟨b, o + k * 5 + 1 + 3, none⟩ = some (.int .i64 x.it.r) ∧ Below wr.heap.size wr w')
            (first | (go_split_ands; refine (fun (hB : Below wr.heap.size wr _) => (⟨cell_keep hB x5, cell_keep hB c1, cell_keep hB c2, cell_keep hB c3, cell_keep hB c4, hB⟩ : _ ∧ _ ∧ _ ∧ _ ∧ _ ∧ _)) ?_; (repeat (first | exact .refl _ _ | assumption | refine .drew ?_ | refine balloc ?_ _ | refine bdrewN ?_ _ | refine .setCell ?_ (by simp <;> omega) _ | refine bstep ?_ (by assumption)))) | (refine (fun (hB : Below wr.heap.size wr _) => (⟨cell_keep hB x5, cell_keep hB c1, cell_keep hB c2, cell_keep hB c3, cell_keep hB c4, hB⟩ : _ ∧ _ ∧ _ ∧ _ ∧ _ ∧ _)) ?_; (repeat (first | exact .refl _ _ | assumption | refine .drew ?_ | refine balloc ?_ _ | refine bdrewN ?_ _ | refine .setCell ?_ (by simp <;> omega) _ | refine bstep ?_ (by assumption)))))
            (first | (go_at_call 24; go_split_ands; refine (HPTT.out _ (HI.out.keep ‹_›) (bstep hbr ‹_›)).mono ?_; rintro e w3 ⟨Q, rfl, hix, hb3⟩; first | (have hn : RowV w3 wr.heap.size 27 [.pointer none] := RowV.keep (w := (wr.alloc (.cells #[.pointer none] 27)).drew) (RowV.new wr 27 [.pointer none]) hb3; have n0 := hn.cell (k := 0) rfl; have n1 := hn.free 0) | skip))
          all_goals go_wp2_with fail
          all_goals go_meet
          · exact ⟨_, Q, rfl, rfl, by have := hb3.size; exact this, RowV.new w3 27 [.pointer Q], hix.keep (balloc (Below.refl _ _) _), balloc (bstep (Below.drew (Below.refl _ _)) hb3) _⟩
          · exact ⟨_, Q, rfl, rfl, Nat.le_refl _, hn.set_ 0 _, hix.far hn (by decide) 0 _, (bstep (Below.drew (balloc (Below.refl _ _) _)) hb3).setCell (by simp) _⟩
        case rest =>
          obtain ⟨g, Q, rfl, rfl, hgg, hgR, hix, hbx⟩ := hcut
          have hrp := HRP.out wc (HL.out.keep hbx)
          have HRP2 := Lib.hid hrp; have HIX := Lib.hid hix
          have hR2 := hR.keep hbx
          have hX2 := hX.keep hbx
          have hb2 := bstep hbr hbx
          have z1 := cell_keep hbx c1
          have z2 := cell_keep hbx c2
          have z3 := cell_keep hbx c3
          have z4 := cell_keep hbx c4
          clear hrp HRP HPTT hR hX hbr c0 c1 c2 c3 c4 x5 hbx hix
          go_wp2_with (go_at_call 36; refine HRP2.out.mono ?_; rintro e w4 ⟨B4, c4', rfl, hL4, hb4⟩; clear HRP2; have hR4 := hR2.keep hb4; have hX4 := hX2.keep hb4; have hg4 := hgR.keep hb4; have hb44 := bstep hb2 hb4; have hI4 := HIX.out.keep hb4; have y5 := hX4.cell (k := 0) rfl; have yg := hg4.cell (k := 0) rfl; have yf := hX4.free 0; have yz1 := hX4.lt; have yz2 := hg4.lt)
          exact ⟨⟨k + 1, _, c4', Q, B4, ⟨by go_num, rfl, by omega⟩, Lib.hid (by rw [HOP.out]), (hR4.far _ _ (by simp; omega)).alloc _, (hX4.set_ 0 _).alloc _, Lib.hid (by rw [HOP.out]; exact (hI4.far hX4 (by decide) 0 _).keep (balloc (Below.refl _ _) _)), Lib.hid (by rw [HOP.out]; exact (hL4.far hX4 _).keep (balloc (Below.refl _ _) _)), balloc (hb44.setCell (by simp; omega) _) _⟩, by simp [intOf]; omega⟩
      · have hdl := fun W (h : IxAt W P L) => ixDelete_any P L x.it.k W h HGL.out.up
        have hrd := fun W (h : ItsRead W B m L) => rDelete15_any B m c' L x.it.k W h (by omega)
        have HDL := Lib.hid hdl; have HRD := Lib.hid hrd
        clear hdl hrd
        go_upto_region 7 with fail
        go_cut [8, 9] (fun s8 s9 wx => ∃ (g : Nat) (Q : Option Addr), s8 = .pointer (some ⟨g, 0, none⟩) ∧ s9 = .bool (ixGet L x.it.k).isSome ∧ wr.heap.size ≤ g ∧ RowV wx g 27 [.pointer Q] ∧ IxAt wx Q (ixDel L x.it.k) ∧ Below wr.heap.size wr wx)
        case first =>
          go_region_held3 (fun w' => w'.cell? ⟨g5, 0, none⟩ = some (.pointer P) ∧ w'.cell? ⟨b, o + k * 5 + 1, none⟩ = some (.string x.it.k) ∧ Below wr.heap.size wr w')
            (first | (go_split_ands; refine (fun (hB : Below wr.heap.size wr _) => (⟨cell_keep hB x5, cell_keep hB c1, hB⟩ : _ ∧ _ ∧ _)) ?_; (repeat (first | exact .refl _ _ | assumption | refine .drew ?_ | refine balloc ?_ _ | refine bdrewN ?_ _ | refine .setCell ?_ (by simp <;> omega) _ | refine bstep ?_ (by assumption)))) | (refine (fun (hB : Below wr.heap.size wr _) => (⟨cell_keep hB x5, cell_keep hB c1, hB⟩ : _ ∧ _ ∧ _)) ?_; (repeat (first | exact .refl _ _ | assumption | refine .drew ?_ | refine balloc ?_ _ | refine bdrewN ?_ _ | refine .setCell ?_ (by simp <;> omega) _ | refine bstep ?_ (by assumption)))))
            (first | (go_at_call 23; go_split_ands; refine (HDL.out _ (HI.out.keep ‹_›)).mono ?_; rintro e w3 ⟨Q, rfl, hix, hb3⟩; first | (have hn : RowV w3 wr.heap.size 27 [.pointer none] := RowV.keep (w := (wr.alloc (.cells #[.pointer none] 27)).drew) (RowV.new wr 27 [.pointer none]) hb3; have n0 := hn.cell (k := 0) rfl; have n1 := hn.free 0) | skip))
          all_goals go_wp2_with fail
          all_goals go_meet
          · exact ⟨_, Q, rfl, rfl, by have := hb3.size; exact this, RowV.new w3 27 [.pointer Q], hix.keep (balloc (Below.refl _ _) _), balloc (bstep (Below.drew (Below.refl _ _)) hb3) _⟩
          · exact ⟨_, Q, rfl, rfl, Nat.le_refl _, hn.set_ 0 _, hix.far hn (by decide) 0 _, (bstep (Below.drew (balloc (Below.refl _ _) _)) hb3).setCell (by simp) _⟩
        case rest =>
          obtain ⟨g, Q, rfl, rfl, hgg, hgR, hix, hbx⟩ := hcut
          have hdn := ixDel_len L x.it.k HGL.out.up
          have hdd : decide ((ixDel L x.it.k).length < m) = (ixGet L x.it.k).isSome := by
            rw [HM.out]
            cases hgs : (ixGet L x.it.k).isSome
            · rw [hgs] at hdn; simp at hdn; simp; omega
            · rw [hgs] at hdn; simp at hdn; simp; omega
          have hrd := HRD.out wc (HL.out.keep hbx)
          rw [hdd] at hrd
          have hop : opsS (os.take (k + 1)) = ixDel L x.it.k := by rw [HOT.out]; unfold opS; rw [if_pos hdel]
          have HRD2 := Lib.hid hrd; have HOP := Lib.hid hop; have HIX := Lib.hid hix
          have hR2 := hR.keep hbx
          have hX2 := hX.keep hbx
          have hb2 := bstep hbr hbx
          have y5 := hX2.cell (k := 0) rfl
          have yg := hgR.cell (k := 0) rfl
          have yf := hX2.free 0
          have z1 := cell_keep hbx c1
          clear hrd hdd hdn hop HRD HDL hR hX hbr c0 c1 c2 c3 c4 x5 hbx hix
          generalize (ixGet L x.it.k).isSome = d at *
          cases d
          all_goals
            go_wp2_with (go_at_call 35; refine HRD2.out.mono ?_; rintro e w4 ⟨B4, c4', rfl, hL4, hb4⟩; clear HRD2; have hR4 := hR2.keep hb4; have hX4 := hX2.keep hb4; have hg4 := hgR.keep hb4; have hb44 := bstep hb2 hb4; have hI4 := HIX.out.keep hb4; clear y5 yg yf; have y5 := hX4.cell (k := 0) rfl; have yg := hg4.cell (k := 0) rfl; have yf := hX4.free 0)
            exact ⟨⟨k + 1, _, c4', Q, B4, ⟨by go_num, rfl, by omega⟩, Lib.hid (by rw [HOP.out]), hR4.far _ _ (by simp; omega), hX4.set_ 0 _, Lib.hid (by rw [HOP.out]; exact hI4.far hX4 (by decide) 0 _), Lib.hid (by rw [HOP.out]; exact hL4.far hX4 _), hb44.setCell (by simp; omega) _⟩, by simp [intOf]; omega⟩
    · obtain rfl : k = n := by omega
      have hfin : opsS (os.take k) = opsS os := by rw [List.take_of_length_le (by omega)]
      have HF := Lib.hid hfin
      clear hfin
      have y5 := hX.cell (k := 0) rfl
      have y2 := hR.cell (k := 0) rfl
      have yf := hR.free 0
      go_wp2
      have hS := hR.set_ 0 (.pointer P)
      have hb4 : Below w.heap.size w (wr.setCell ⟨w.heap.size, 0, none⟩ (.pointer P)) := hbr.setCell (by simp) _
      have hI4 := HI.out.far hR (by decide) 0 (.pointer P)
      have hL4 := HL.out.far hR (.pointer P)
      rw [HF.out] at hI4 hL4
      have hm4 : m = (opsS os).length := by rw [HM.out, HF.out]
      generalize hw4 : World.setCell _ _ _ = w4 at *
      have q0 := hS.cell (k := 0) rfl
      exact bodyPost_ret (v := .tuple #[.agg #[.pointer P], .slice B m c', .bool true]) (by simp [results, Tryz.results11, go_sem, q0]) rfl ⟨P, B, c', by rw [hm4], hI4, by rw [← hm4]; exact hL4, hb4⟩
end Go.Proofs.YtokfclikhfpmhaaGreatDoor
namespace Go.Proofs.YtokfclikhfpmhaaGreatDoor
open Go.RowKit Go.Sort
set_option linter.unusedVariables false
set_option linter.unusedSimpArgs false
set_option maxRecDepth 100000
def e0 : It := ⟨(⟨#[97, 99, 109, 101, 47, 97, 32, 100, 101]⟩ : ByteArray), (⟨#[120]⟩ : ByteArray), 0, 1⟩
def e1 : It := ⟨(⟨#[97, 99, 109, 101, 47, 97, 47, 98, 32, 45]⟩ : ByteArray), (⟨#[120, 44, 121]⟩ : ByteArray), 0, 2⟩
def e2 : It := ⟨(⟨#[97, 99, 109, 101, 47, 97, 98, 32, 45]⟩ : ByteArray), ⟨#[]⟩, 0, 3⟩
def e3 : It := ⟨(⟨#[98, 111, 108, 116, 47, 97, 32, 45]⟩ : ByteArray), (⟨#[120]⟩ : ByteArray), 0, 4⟩
def SL : List It := [e0, e1, e2, e3]
theorem sp_x : splitR (⟨#[120]⟩ : ByteArray) = ([(⟨#[120]⟩ : ByteArray)], 0) := by
  have h1 : splitB 44 (⟨#[120]⟩ : ByteArray) = [(⟨#[120]⟩ : ByteArray)] := by kernel_rfl
  have h : tagsR [(⟨#[120]⟩ : ByteArray)] = ((⟨#[120]⟩ : ByteArray), 0) := by
    have hs : sortL (lists [(⟨#[120]⟩ : ByteArray)]) = [[120]] := sortL_of (by decide) (by decide)
    have ht : tagsL [(⟨#[120]⟩ : ByteArray)] = [120] := by
      unfold tagsL
      rw [hs]
      show Lib.join (Lib.compact [[120]]) [44] = [120]
      kernel_rfl
    unfold tagsR
    rw [ht, if_neg (by decide +kernel), if_neg (by decide)]
    rfl
  unfold splitR
  rw [h1, h, if_neg (by decide +kernel), if_pos (by decide +kernel)]
theorem sp_xy : splitR (⟨#[120, 44, 121]⟩ : ByteArray) = ([(⟨#[120]⟩ : ByteArray), (⟨#[121]⟩ : ByteArray)], 0) := by
  have h1 : splitB 44 (⟨#[120, 44, 121]⟩ : ByteArray) = [(⟨#[120]⟩ : ByteArray), (⟨#[121]⟩ : ByteArray)] := by kernel_rfl
  have h : tagsR [(⟨#[120]⟩ : ByteArray), (⟨#[121]⟩ : ByteArray)] = ((⟨#[120, 44, 121]⟩ : ByteArray), 0) := by
    have hs : sortL (lists [(⟨#[120]⟩ : ByteArray), (⟨#[121]⟩ : ByteArray)]) = [[120], [121]] := sortL_of (by decide) (by decide)
    have ht : tagsL [(⟨#[120]⟩ : ByteArray), (⟨#[121]⟩ : ByteArray)] = [120, 44, 121] := by
      unfold tagsL
      rw [hs]
      show Lib.join (Lib.compact [[120], [121]]) [44] = [120, 44, 121]
      kernel_rfl
    unfold tagsR
    rw [ht, if_neg (by decide +kernel), if_neg (by decide)]
    rfl
  unfold splitR
  rw [h1, h, if_neg (by decide +kernel), if_pos (by decide +kernel)]
theorem sp_no : splitR ⟨#[]⟩ = ([], 0) := by
  unfold splitR
  rw [if_pos (by decide +kernel)]
theorem va0 : validI e0 = true := by unfold validI e0; dsimp only; rw [sp_x]; kernel_rfl
theorem va1 : validI e1 = true := by unfold validI e1; dsimp only; rw [sp_xy]; kernel_rfl
theorem va2 : validI e2 = true := by unfold validI e2; dsimp only; rw [sp_no]; kernel_rfl
theorem va3 : validI e3 = true := by unfold validI e3; dsimp only; rw [sp_x]; kernel_rfl
theorem put3 : ixPutS [] e3 = ([e3], 0) := by unfold ixPutS; rw [va3]; kernel_rfl
theorem put2 : ixPutS [e3] e2 = ([e2, e3], 0) := by unfold ixPutS; rw [va2]; kernel_rfl
theorem put1 : ixPutS [e2, e3] e1 = ([e1, e2, e3], 0) := by unfold ixPutS; rw [va1]; kernel_rfl
theorem put0 : ixPutS [e1, e2, e3] e0 = ([e0, e1, e2, e3], 0) := by unfold ixPutS; rw [va0]; kernel_rfl
theorem up3 : UpI [e3] := List.pairwise_singleton _ _
theorem up2 : UpI [e2, e3] := by have := (LGood.op ⟨up3, Nat.le_refl _, fun x hx => by simp at hx; subst hx; exact va3⟩ ⟨false, e2⟩).up; unfold opS at this; rw [if_neg (by decide), put2] at this; exact this
theorem put_up {L M : List It} {x : It} (h : UpI L) (hp : ixPutS L x = (M, 0)) (hv : validI x = true) (hl : L.length ≤ 100) : UpI M := by
  unfold ixPutS at hp
  rw [if_pos hv, if_neg (by simp; omega)] at hp
  injection hp with hp _
  rw [← hp]
  exact up_put x h
theorem up1 : UpI [e1, e2, e3] := put_up up2 put1 va1 (by simp)
theorem up0 : UpI SL := put_up up1 put0 va0 (by simp)
theorem put_step (j : Nat) (hj : j < 4) (x : It) (hx : SL[j]? = some x) : ixPutS (SL.drop (j + 1)) x = (SL.drop j, 0) ∧ UpI (SL.drop (j + 1)) := by
  match j, hj, x, hx with
  | 0, _, _, rfl => exact ⟨put0, up1⟩
  | 1, _, _, rfl => exact ⟨put1, up2⟩
  | 2, _, _, rfl => exact ⟨put2, up3⟩
  | 3, _, _, rfl => exact ⟨put3, List.Pairwise.nil⟩
theorem ck1 : takeI 9 (ixFrom SL ⟨#[]⟩) = SL := by kernel_rfl
theorem ck2 : takeI 2 (ixFrom SL (⟨#[97, 99, 109, 101, 47, 97, 47]⟩ : ByteArray)) = [e1, e2] := by kernel_rfl
theorem ck3 : (((ixFrom SL (⟨#[97, 99, 109, 101, 47, 97]⟩ : ByteArray)).takeWhile fun y => bgB (⟨#[97, 99, 109, 101, 47, 97]⟩ : ByteArray) y.k).filter fun x => underB (⟨#[97, 99, 109, 101, 47, 97]⟩ : ByteArray) (adrI x)) = [e0, e1] := by kernel_rfl
theorem ck4 : (((ixFrom SL (⟨#[97, 99, 109, 101]⟩ : ByteArray)).takeWhile fun y => bgB (⟨#[97, 99, 109, 101]⟩ : ByteArray) y.k).filter fun x => underB (⟨#[97, 99, 109, 101]⟩ : ByteArray) (adrI x)) = [e0, e1, e2] := by kernel_rfl
theorem tg0 : tagB e0 (⟨#[97, 99, 109, 101]⟩ : ByteArray) (⟨#[120]⟩ : ByteArray) = true := by
  unfold tagB hasTagB e0; dsimp only; rw [sp_x]; kernel_rfl
theorem tg1 : tagB e1 (⟨#[97, 99, 109, 101]⟩ : ByteArray) (⟨#[120]⟩ : ByteArray) = true := by
  unfold tagB hasTagB e1; dsimp only; rw [sp_xy]; kernel_rfl
theorem tg2 : tagB e2 (⟨#[97, 99, 109, 101]⟩ : ByteArray) (⟨#[120]⟩ : ByteArray) = false := by
  unfold tagB hasTagB e2; dsimp only; rw [sp_no]; kernel_rfl
theorem tg3 : tagB e3 (⟨#[98, 111, 108, 116]⟩ : ByteArray) (⟨#[121]⟩ : ByteArray) = false := by
  unfold tagB hasTagB e3; dsimp only; rw [sp_x]; kernel_rfl
theorem ck5 : (((ixFrom SL (⟨#[97, 99, 109, 101]⟩ : ByteArray)).takeWhile fun y => bgB (⟨#[97, 99, 109, 101]⟩ : ByteArray) y.k).filter fun x => tagB x (⟨#[97, 99, 109, 101]⟩ : ByteArray) (⟨#[120]⟩ : ByteArray)) = [e0, e1] := by
  have h : ((ixFrom SL (⟨#[97, 99, 109, 101]⟩ : ByteArray)).takeWhile fun y => bgB (⟨#[97, 99, 109, 101]⟩ : ByteArray) y.k) = [e0, e1, e2] := by kernel_rfl
  rw [h]
  simp [List.filter_cons, tg0, tg1, tg2]
theorem ck6 : (((ixFrom SL (⟨#[98, 111, 108, 116]⟩ : ByteArray)).takeWhile fun y => bgB (⟨#[98, 111, 108, 116]⟩ : ByteArray) y.k).filter fun x => tagB x (⟨#[98, 111, 108, 116]⟩ : ByteArray) (⟨#[121]⟩ : ByteArray)) = [] := by
  have h : ((ixFrom SL (⟨#[98, 111, 108, 116]⟩ : ByteArray)).takeWhile fun y => bgB (⟨#[98, 111, 108, 116]⟩ : ByteArray) y.k) = [e3] := by kernel_rfl
  rw [h]
  simp [List.filter_cons, tg3]
end Go.Proofs.YtokfclikhfpmhaaGreatDoor
