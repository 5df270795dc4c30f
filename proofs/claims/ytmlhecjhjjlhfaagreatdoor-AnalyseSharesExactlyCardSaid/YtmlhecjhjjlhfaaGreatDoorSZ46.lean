/- variant.Split. -/
import Derived.Test.YtmlhecjhjjlhfaaGreatDoorSZ45
import Derived.Test.YtmlhecjhjjlhfaaGreatDoorSZ10
import Derived.Test.YtmlhecjhjjlhfaaGreatDoorProg
import Derived.WalkKit
import Derived.WalkSpells
import Derived.WalkLawsBesides
import Derived.Below
import Derived.Deep.QuietTactic
import Derived.BigQuiet
import Derived.Lib.QuietBelow
import Derived.Lib.Strings
import Derived.Lib.Hide
import Derived.Deep.RegionWith
import Derived.Deep.RegionHeld3
import Derived.Lib.IndexBytes
import Derived.Test.YtmlhecjhjjlhfaaGreatDoorSZ7
import Derived.Test.YtmlhecjhjjlhfaaGreatDoorSZ37
import Derived.Test.YtmlhecjhjjlhfaaGreatDoorSZ32
namespace Go.Proofs.YtmlhecjhjjlhfaaGreatDoor
open Go.RowKit Go.Sort
set_option linter.unusedVariables false
set_option linter.unusedSimpArgs false
set_option maxRecDepth 100000
def PairsTo (a b : List VaryV) (S : List SampM) (i : Nat) : Prop := ∀ i' k g q, i' < i → i' < k → S[i']? = some g → S[k]? = some q → sameV a g.h q.h = true → sameV b g.h q.h = true
def PairsAt (a b : List VaryV) (S : List SampM) (i k : Nat) : Prop := ∀ k' g q, i < k' → k' < k → S[i]? = some g → S[k']? = some q → sameV a g.h q.h = true → sameV b g.h q.h = true
theorem PairsTo.succ {a b : List VaryV} {S : List SampM} {i : Nat} (h : PairsTo a b S i) (h2 : PairsAt a b S i S.length) : PairsTo a b S (i + 1) := by
  intro i' k g q h3 h4 h5 h6 h7
  rcases Nat.lt_succ_iff_lt_or_eq.1 h3 with h8 | h8
  · exact h i' k g q h8 h4 h5 h6 h7
  · subst h8
    exact h2 k g q h4 (List.getElem?_eq_some_iff.1 h6).1 h5 h6 h7
theorem PairsAt.succ {a b : List VaryV} {S : List SampM} {i k : Nat} {g q : SampM} (h : PairsAt a b S i k) (h1 : S[i]? = some g) (h2 : S[k]? = some q) (h3 : sameV a g.h q.h = true → sameV b g.h q.h = true) : PairsAt a b S i (k + 1) := by
  intro k' g' q' h4 h5 h6 h7 h8
  rcases Nat.lt_succ_iff_lt_or_eq.1 h5 with h9 | h9
  · exact h k' g' q' h4 h9 h6 h7 h8
  · subst h9
    rw [h1] at h6
    rw [h2] at h7
    injection h6 with h6
    injection h7 with h7
    subst h6; subst h7
    exact h3 h8
def GoodV (a b : List VaryV) (v : VaryV) : Prop := ∃ S, Samples a v S ∧ ∀ g ∈ S, ∀ k ∈ S, sameV a g k = true → sameV b g k = true
theorem good_of {a b : List VaryV} {v : VaryV} {S : List SampM} (hS : Samples a v (S.map (·.h))) (h : PairsTo a b S S.length) : GoodV a b v := by
  refine ⟨S.map (·.h), hS, pairs_all fun i k g q hik hi hk hs => ?_⟩
  rw [List.getElem?_map, Option.map_eq_some_iff] at hi hk
  obtain ⟨x, hx, rfl⟩ := hi
  obtain ⟨y, hy, rfl⟩ := hk
  exact h i k x y (List.getElem?_eq_some_iff.1 hx).1 hik hx hy hs
def VSplitPost (a b : List VaryV) (w : World) (e : Ending) (w' : World) : Prop :=
  Below w.heap.size w w' ∧ ((e = .returned (.tuple #[.slice none 0 0, .slice none 0 0, .bool false]) ∧ ∀ v ∈ b, GoodV a b v) ∨
    ∃ x y : SampM, e = .returned (.tuple #[.slice x.A x.h.length x.c, .slice y.A y.h.length y.c, .bool true]) ∧ SampReads w' x ∧ SampReads w' y ∧ sameV a x.h y.h = true ∧ sameV b x.h y.h = false)
structure SpS (w : World) (A : Option Addr) (n : Nat) (LA : List VaryM) (B : Option Addr) (m : Nat) (LB : List VaryM) (SA : Option Addr) (s : Nat) (S : List SampM) (W : World) : Prop where
  a : VarysRead W A n LA
  b : VarysRead W B m LB
  s : SampsRead W SA s S
  w : Below w.heap.size w W
theorem SpS.keep {w : World} {A : Option Addr} {n : Nat} {LA : List VaryM} {B : Option Addr} {m : Nat} {LB : List VaryM} {SA : Option Addr} {s : Nat} {S : List SampM} {W W' : World} (h : SpS w A n LA B m LB SA s S W) (hb : Below W.heap.size W W') : SpS w A n LA B m LB SA s S W' := ⟨h.a.keep hb, h.b.keep hb, h.s.keep hb, bstep h.w hb⟩
theorem vsplit_found {va vb : List VaryV} {w : World} {A : Option Addr} {n : Nat} {LA : List VaryM} {B : Option Addr} {m : Nat} {LB : List VaryM} {SA : Option Addr} {s i k : Nat} {S : List SampM} {W w' : World} {x z : SampM} {e : Ending} (hS : SpS w A n LA B m LB SA s S W) (hx : S[i]? = some x) (hz : S[k]? = some z) (h1 : sameV va x.h z.h = true) (h2 : sameV vb x.h z.h = false)
    (he : e = .returned (.tuple #[.slice x.A x.h.length x.c, .slice z.A z.h.length z.c, .bool true])) (hb : RowKit.Below W.heap.size W w') : VSplitPost va vb w e w' :=
  ⟨bstep hS.w hb, .inr ⟨x, z, he, (hS.s.each x (List.mem_of_getElem? hx)).keep hb, (hS.s.each z (List.mem_of_getElem? hz)).keep hb, h1, h2⟩⟩
theorem samp_cell {W : World} {b o s i : Nat} {S : List SampM} {x : SampM} (h : SampsRead W (some ⟨b, o, none⟩) s S) (hx : S[i]? = some x) : W.cell? ⟨b, o + i, none⟩ = some (.slice x.A x.h.length x.c) := by
  obtain ⟨_, b', o', he, hc⟩ := h.at_ hx
  injection he with he
  injection he with e1 e2 _
  subst e1; subst e2
  have := hc 0 _ rfl
  rw [Nat.mul_one, Nat.add_zero] at this
  exact this
set_option maxHeartbeats 8000000 in
theorem vsplit_any (A : Option Addr) (n c : Nat) (LA : List VaryM) (B : Option Addr) (m d : Nat) (LB : List VaryM) (w : World) (hA : VarysRead w A n LA) (hB : VarysRead w B m LB) (hfa : ∀ y ∈ LA, VaryFits y.v) (hfb : ∀ y ∈ LB, VaryFits y.v) (hn : n ≤ 10) (hm : m ≤ 10) (hck : checkV LA = 0) :
    Calls Tryz.prog 27 #[.slice A n c, .slice B m d] w (VSplitPost (LA.map (·.v)) (LB.map (·.v)) w) := by
  have hl : LB.length = m := hB.len
  have cS := fun (y : VaryM) (hy : y ∈ LB) (W : World) (hb : Below w.heap.size w W) => samples_any A n c LA y W (hA.keep hb) hfa hn ((hB.keep hb).each y hy) (hfb y hy) hck
  have cA := fun (x y : SampM) (W : World) (ha : VarysRead W A n LA) (hx : SampReads W x) (hy : SampReads W y) => Same_any A n c LA x.A x.h.length x.c x.h y.A y.h.length y.c y.h W ha hx.r hy.r hfa hn (by have := hy.l; omega) (by have := hx.l; omega)
  have cB := fun (x y : SampM) (W : World) (hb : VarysRead W B m LB) (hx : SampReads W x) (hy : SampReads W y) => Same_any B m d LB x.A x.h.length x.c x.h y.A y.h.length y.c y.h W hb hx.r hy.r hfb hm (by have := hy.l; omega) (by have := hx.l; omega)
  obtain ⟨P, hP⟩ : ∃ P, P = VSplitPost (LA.map (·.v)) (LB.map (·.v)) w := ⟨_, rfl⟩
  rw [← hP]
  have HP := Lib.hid hP
  obtain ⟨va, hva⟩ : ∃ va, va = LA.map (·.v) := ⟨_, rfl⟩
  obtain ⟨vb, hvb⟩ : ∃ vb, vb = LB.map (·.v) := ⟨_, rfl⟩
  simp only [← hva] at cS cA HP
  simp only [← hvb] at cB HP
  have HVB := Lib.hid hvb
  have HAR := Lib.hid hA; have HBR := Lib.hid hB; have HS := Lib.hid cS; have HCA := Lib.hid cA; have HCB := Lib.hid cB; have HLN := Lib.hid hl
  clear hP hA hB cS cA cB hl hfa hfb hva hvb
  go_enter Tryz.func27, Tryz.ntmps27
  go_wp2_with fail
  go_loopw [14] (fun iv wr => ∃ j : Nat, j ≤ m ∧ iv = .int .i64 j ∧ Hid (∀ x ∈ LB.take j, GoodV va vb x.v) ∧ Below w.heap.size w wr) (fun iv _ => m - (intOf iv).toNat)
  case atStart => exact ⟨0, by omega, rfl, Lib.hid (fun x hx => by simp at hx), Below.refl _ _⟩
  case round =>
    obtain ⟨j, hj, rfl, HG, hbr⟩ := hrel
    obtain ⟨wo, rfl⟩ : ∃ wo : World, wo = wr := ⟨_, rfl⟩
    by_cases hlt : j < m
    · obtain ⟨y, hy⟩ : ∃ y, LB[j]? = some y := ⟨_, List.getElem?_eq_getElem (by have := HLN.out; omega)⟩
      have hym := List.mem_of_getElem? hy
      have hcs := HS.out y hym
      obtain ⟨_, b, o, rfl, hcell⟩ := (HBR.out.keep hbr).at_ hy
      have hld := varyA_load wo b (o + j * 3) y hcell
      have hone : y.cells.toArray.all (·.oneCell') = true := by rw [List.all_toArray]; rfl
      have hsz2 : y.cells.toArray.size = 3 := by rw [List.size_toArray, y.cells_len]
      have hi3 : (Tryz.prog.info? 83).map (·.size) = some y.cells.toArray.size := by rw [hsz2]; exact infVar
      have hsz : y.cells.toArray.size = (#[.string ⟨#[]⟩, .slice none 0 0, .string ⟨#[]⟩] : Array Value).size := by rw [hsz2]; rfl
      have htk : LB.take (j + 1) = LB.take j ++ [y] := by rw [List.take_add_one, hy]; rfl
      unfold VaryM.val at hld hcs
      generalize y.cells.toArray = X at *
      have HLD := Lib.hid hld; have HCS := Lib.hid hcs; have HON := Lib.hid hone; have HXS := Lib.hid hsz2; have HI3 := Lib.hid hi3; have HSZ := Lib.hid hsz; have HTK := Lib.hid htk
      clear hld hcs hone hsz2 hi3 hsz hcell hy hym htk
      have hk0 : (0 : Int) ≤ (j : Int) := by omega
      have hk1 : (j : Int) < (m : Int) := by omega
      go_upto_region 5 with (first | (refine wpList_load_addr rfl 83 _ rfl ⟨b, o + j * 3, none⟩ (.agg X) rfl HLD.out ?_) | (refine wpList_store_row rfl 83 _ _ rfl wo.heap.size X rfl rfl _ #[.string ⟨#[]⟩, .slice none 0 0, .string ⟨#[]⟩] ((heap_alloc_new wo _).trans rfl) HI3.out HSZ.out.symm HON.out ?_; generalize hw6 : World.setRow _ _ _ = w6; have B6 : Box1 w6 wo.heap.size 83 X := (by rw [← hw6]; exact setRow_heap _ _ _ _ _ _ (heap_alloc_new wo _)); have hb6 : Below wo.heap.size wo w6 := (by rw [← hw6]; exact below_setRow ((Below.refl _ _).alloc (Nat.le_refl _) _) (Nat.le_refl _) _); clear hw6) | (refine wpList_load_addr rfl 83 _ rfl ⟨wo.heap.size, 0, none⟩ (.agg X) rfl (B6.vary HXS.out) ?_) | (go_at_call 61; refine (HCS.out _ (bstep hbr hb6)).mono ?_; rintro e w7 ⟨hb7, SA, sc, S, rfl, hsr, hsl, hss⟩))
      obtain ⟨s, hs⟩ : ∃ s, s = S.length := ⟨_, rfl⟩
      have HSS := Lib.hid hss
      rw [← hs] at hsr hsl ⊢
      have HSL := Lib.hid hs
      have hS7 : SpS w A n LA (some ⟨b, o, none⟩) m LB SA s S w7 := ⟨HAR.out.keep (bstep hbr (bstep hb6 hb7)), HBR.out.keep (bstep hbr (bstep hb6 hb7)), hsr, bstep hbr (bstep hb6 hb7)⟩
      have HS7 := Lib.hid hS7
      clear hs hsr hss hS7 hb6 hb7 B6 HLD HON HXS HI3 HSZ HCS hbr
      go_wp2_with fail
      go_loopw [23] (fun iv wr => ∃ i : Nat, i ≤ s ∧ iv = .int .i64 i ∧ Hid (PairsTo va vb S i) ∧ Hid (SpS w A n LA (some ⟨b, o, none⟩) m LB SA s S wr)) (fun iv _ => s - (intOf iv).toNat)
      case atStart => exact ⟨0, by omega, rfl, Lib.hid (fun i' k g q h => absurd h (by omega)), HS7⟩
      case round =>
        obtain ⟨i, hi, rfl, HPT, HSr⟩ := hrel
        obtain ⟨wp, rfl⟩ : ∃ wp : World, wp = wr := ⟨_, rfl⟩
        by_cases hil : i < s
        · obtain ⟨x, hx⟩ : ∃ x, S[i]? = some x := ⟨_, List.getElem?_eq_getElem (by have := HSL.out; omega)⟩
          have HX := Lib.hid hx
          obtain ⟨_, sb, so, rfl, _⟩ := HSr.out.s.at_ hx
          clear hx HS7
          have hi0 : (0 : Int) ≤ (i : Int) := by omega
          have hi1 : (i : Int) < (s : Int) := by omega
          go_wp2_with fail
          go_loopw [11] (fun iv wr => ∃ k : Nat, i + 1 ≤ k ∧ k ≤ s ∧ iv = .int .i64 k ∧ Hid (PairsAt va vb S i k) ∧ Hid (SpS w A n LA (some ⟨b, o, none⟩) m LB (some ⟨sb, so, none⟩) s S wr)) (fun iv _ => s - (intOf iv).toNat)
          case atStart => exact ⟨i + 1, by omega, by omega, by go_num, Lib.hid (fun k' g q h1 h2 => absurd h1 (by omega)), HSr⟩
          case round =>
            obtain ⟨k, hik, hks, rfl, HPA, HSk⟩ := hrel
            by_cases hkl : k < s
            · obtain ⟨z, hz⟩ : ∃ z, S[k]? = some z := ⟨_, List.getElem?_eq_getElem (by have := HSL.out; omega)⟩
              have HZ := Lib.hid hz
              have hce : ∀ W, SpS w A n LA (some ⟨b, o, none⟩) m LB (some ⟨sb, so, none⟩) s S W → W.cell? ⟨sb, so + i, none⟩ = some (.slice x.A x.h.length x.c) ∧ W.cell? ⟨sb, so + k, none⟩ = some (.slice z.A z.h.length z.c) := fun W hS => ⟨samp_cell hS.s HX.out, samp_cell hS.s HZ.out⟩
              have hca := fun W (hS : SpS w A n LA (some ⟨b, o, none⟩) m LB (some ⟨sb, so, none⟩) s S W) => HCA.out x z W hS.a (hS.s.each x (List.mem_of_getElem? HX.out)) (hS.s.each z (List.mem_of_getElem? HZ.out))
              have hcb := fun W (hS : SpS w A n LA (some ⟨b, o, none⟩) m LB (some ⟨sb, so, none⟩) s S W) => HCB.out x z W hS.b (hS.s.each x (List.mem_of_getElem? HX.out)) (hS.s.each z (List.mem_of_getElem? HZ.out))
              have hk0' : (0 : Int) ≤ (k : Int) := by omega
              have hk1' : (k : Int) < (s : Int) := by omega
              obtain ⟨ba, hba⟩ : ∃ ba, ba = sameV va x.h z.h := ⟨_, rfl⟩
              obtain ⟨bb, hbb⟩ : ∃ bb, bb = sameV vb x.h z.h := ⟨_, rfl⟩
              simp only [← hba] at hca
              simp only [← hbb] at hcb
              have HBA := Lib.hid hba; have HBB := Lib.hid hbb; have HCE := Lib.hid hce; have HC1 := Lib.hid hca; have HC2 := Lib.hid hcb
              clear hz hce hca hcb hba hbb
              cases ba
              · go_upto_region 11 with fail
                refine wp_det 23 (by kernel_rfl) (by kernel_rfl) (by kernel_rfl) (fun q => [.slice A n c, .slice (some ⟨sb, so, none⟩) s sc, .int .i64 i, .pointer (some ⟨sb, so + i, none⟩), .slice x.A x.h.length x.c, .slice (some ⟨sb, so, none⟩) s sc, .int .i64 k, .pointer (some ⟨sb, so + k, none⟩), .slice z.A z.h.length z.c, .bool false, .bool false, undef, undef, undef, undef, undef, undef, undef, undef, undef, undef, undef, .bool false].getD q undef) (SpS w A n LA (some ⟨b, o, none⟩) m LB (some ⟨sb, so, none⟩) s S) (HSk.out.keep (Below.drew (Below.refl _ _))) (fun _ _ h hb => h.keep hb) ?_ ?_
                · simp only [putL, List.take_succ_cons, List.take_zero, List.drop_succ_cons, List.drop_zero, Act.put, List.setIfInBounds_toArray, List.set_cons_succ, List.set_cons_zero, List.getD_cons_zero, List.getD_cons_succ]
                  refine ⟨fun W hS => ?_, fun W hS => ?_, fun W hS => ?_, fun W hS => ?_, fun W hS => ?_, fun W hS => ?_, fun W hS => ?_, fun W hS => ?_, fun W hS => ?_, fun W hS => ?_, fun W hS => ?_, fun W hS => ?_, fun W hS => ?_, fun W hS => ?_, fun W hS => ?_, fun W hS => ?_, fun W hS => ?_, fun W hS => ?_, fun W hS => ?_, fun W hS => ?_, fun W hS => ?_, fun W hS => ?_, fun W hS => ?_, trivial⟩
                  all_goals
                    obtain ⟨e1, e2⟩ := HCE.out W hS
                    go_wp2_with (go_at_call 62; refine (HC1.out _ hS).mono ?_; rintro e w2 ⟨rfl, hb2⟩)
                    exact ⟨rfl, rfl, belB⟩
                intro w9 hS9
                have HS9 := Lib.hid hS9
                have hpa : PairsAt va vb S i (k + 1) := HPA.out.succ HX.out HZ.out (fun h => by rw [← HBA.out] at h; cases h)
                have HPA2 := Lib.hid hpa
                clear hS9 hpa
                simp only [putL, List.take_succ_cons, List.take_zero, List.drop_succ_cons, List.drop_zero, Act.put, List.setIfInBounds_toArray, List.set_cons_succ, List.set_cons_zero, List.getD_cons_zero, List.getD_cons_succ]
                go_wp2
                exact ⟨⟨k + 1, by omega, by omega, by go_num, HPA2, HS9⟩, by simp [intOf]; omega⟩
              · go_upto_region 11 with fail
                refine wp_det 23 (by kernel_rfl) (by kernel_rfl) (by kernel_rfl) (fun q => [.slice A n c, .slice (some ⟨sb, so, none⟩) s sc, .int .i64 i, .pointer (some ⟨sb, so + i, none⟩), .slice x.A x.h.length x.c, .slice (some ⟨sb, so, none⟩) s sc, .int .i64 k, .pointer (some ⟨sb, so + k, none⟩), .slice z.A z.h.length z.c, .bool true, .bool true, .slice (some ⟨b, o, none⟩) m d, .slice (some ⟨sb, so, none⟩) s sc, .int .i64 i, .pointer (some ⟨sb, so + i, none⟩), .slice x.A x.h.length x.c, .slice (some ⟨sb, so, none⟩) s sc, .int .i64 k, .pointer (some ⟨sb, so + k, none⟩), .slice z.A z.h.length z.c, .bool bb, .bool (!bb), .bool (!bb)].getD q undef) (SpS w A n LA (some ⟨b, o, none⟩) m LB (some ⟨sb, so, none⟩) s S) (HSk.out.keep (Below.drew (Below.refl _ _))) (fun _ _ h hb => h.keep hb) ?_ ?_
                · simp only [putL, List.take_succ_cons, List.take_zero, List.drop_succ_cons, List.drop_zero, Act.put, List.setIfInBounds_toArray, List.set_cons_succ, List.set_cons_zero, List.getD_cons_zero, List.getD_cons_succ]
                  refine ⟨fun W hS => ?_, fun W hS => ?_, fun W hS => ?_, fun W hS => ?_, fun W hS => ?_, fun W hS => ?_, fun W hS => ?_, fun W hS => ?_, fun W hS => ?_, fun W hS => ?_, fun W hS => ?_, fun W hS => ?_, fun W hS => ?_, fun W hS => ?_, fun W hS => ?_, fun W hS => ?_, fun W hS => ?_, fun W hS => ?_, fun W hS => ?_, fun W hS => ?_, fun W hS => ?_, fun W hS => ?_, fun W hS => ?_, trivial⟩
                  rotate_left 9
                  · go_wp2_with (go_at_call 62; refine (HC1.out _ hS).mono ?_; rintro e w2 ⟨rfl, hb2⟩)
                    exact ⟨rfl, rfl, belB⟩
                  rotate_left 10
                  · go_wp2_with (go_at_call 62; refine (HC2.out _ hS).mono ?_; rintro e w2 ⟨rfl, hb2⟩)
                    exact ⟨rfl, rfl, belB⟩
                  all_goals
                    obtain ⟨e1, e2⟩ := HCE.out W hS
                    go_wp2
                    exact ⟨rfl, rfl, belB⟩
                intro w9 hS9
                have HS9 := Lib.hid hS9
                cases bb
                · obtain ⟨e1, e2⟩ := HCE.out w9 hS9
                  have hw9 := hS9.w
                  clear hS9
                  simp only [putL, List.take_succ_cons, List.take_zero, List.drop_succ_cons, List.drop_zero, Act.put, List.setIfInBounds_toArray, List.set_cons_succ, List.set_cons_zero, List.getD_cons_zero, List.getD_cons_succ]
                  go_upto_region 12 with fail
                  have r1 := cell_regrown e1
                  have r2 := cell_regrown e2
                  go_quiet (fail)
                  go_wp2
                  go_ret3
                  rw [HP.out]
                  exact vsplit_found HS9.out HX.out HZ.out HBA.out.symm HBB.out.symm rfl belB
                · have hpa : PairsAt va vb S i (k + 1) := HPA.out.succ HX.out HZ.out (fun _ => HBB.out.symm)
                  have HPA2 := Lib.hid hpa
                  clear hS9 hpa
                  simp only [putL, List.take_succ_cons, List.take_zero, List.drop_succ_cons, List.drop_zero, Act.put, List.setIfInBounds_toArray, List.set_cons_succ, List.set_cons_zero, List.getD_cons_zero, List.getD_cons_succ]
                  go_wp2
                  exact ⟨⟨k + 1, by omega, by omega, by go_num, HPA2, HS9⟩, by simp [intOf]; omega⟩
            · obtain rfl : k = s := by omega
              have hpt : PairsTo va vb S (i + 1) := HPT.out.succ (by rw [← HSL.out]; exact HPA.out)
              have HPT2 := Lib.hid hpt
              clear hpt
              go_wp2_with fail
              exact ⟨⟨i + 1, by omega, by go_num, HPT2, HSk⟩, by simp [intOf]; omega⟩
        · obtain rfl : i = s := by omega
          have hgd : ∀ u ∈ LB.take (j + 1), GoodV va vb u.v := by
            intro u hu
            rw [HTK.out] at hu
            rcases List.mem_append.1 hu with hu | hu
            · exact HG.out u hu
            · rw [List.mem_singleton.1 hu]
              exact good_of HSS.out (by rw [← HSL.out]; exact HPT.out)
          have HG2 := Lib.hid hgd
          have hwr := HSr.out.w
          clear hgd
          go_wp2_with fail
          exact ⟨⟨j + 1, by omega, by go_num, HG2, hwr⟩, by simp [intOf]; omega⟩
    · obtain rfl : j = m := by omega
      have hgd := HG.out
      rw [List.take_of_length_le (by have := HLN.out; omega)] at hgd
      have hgv : ∀ v ∈ vb, GoodV va vb v := by
        rw [HVB.out]
        intro v hv
        obtain ⟨u, hu, rfl⟩ := List.mem_map.1 hv
        have := hgd u hu
        rw [HVB.out] at this
        exact this
      have HGV := Lib.hid hgv
      clear hgd hgv HG
      go_wp2_with fail
      go_ret3
      rw [HP.out]
      exact ⟨hbr, .inl ⟨rfl, HGV.out⟩⟩
end Go.Proofs.YtmlhecjhjjlhfaaGreatDoor
namespace Go.Proofs.YtmlhecjhjjlhfaaGreatDoor
open Go.RowKit Go.Sort
set_option linter.unusedVariables false
set_option linter.unusedSimpArgs false
set_option maxRecDepth 100000
def ruleZ24 : Array Value := #[.string ⟨#[]⟩, .string ⟨#[]⟩, .slice none 0 0, .int .i64 0, .int .i64 0, .int .i64 0, .int .i64 0, .slice none 0 0, .int .i64 0, .int .i64 0, .string ⟨#[]⟩, .slice none 0 0, .slice none 0 0, .slice none 0 0, .int .i64 0, .bool false, .int .i64 0, .string ⟨#[]⟩]
def cond24 (al : ByteArray) : List Value := [.int .i64 0, .int .i64 1099511627777, .string al, .slice none 0 0, .slice none 0 0, .slice none 0 0, .int .i64 0]
def row24 (nm pt : ByteArray) (T : Option Addr) (n c : Nat) (al : ByteArray) : List Value := [.string nm, .string pt, .slice T n c, .int .i64 0, .int .i64 0, .int .i64 0, .int .i64 0, .slice none 0 0, .int .i64 0, .int .i64 1099511627777, .string al, .slice none 0 0, .slice none 0 0, .slice none 0 0, .int .i64 0, .bool false, .int .i64 0, .string ⟨#[]⟩]
theorem run_c24 (al : ByteArray) (w : World) : (Instr.build 36 #[(1, .int .i64 1099511627777), (2, .string al)]).run Tryz.prog w = .ok (.agg (cond24 al).toArray) w := by kernel_rfl
theorem run_r24 (nm pt : ByteArray) (T : Option Addr) (n c : Nat) (al : ByteArray) (w : World) : (Instr.build 38 #[(0, .string nm), (1, .string pt), (2, .slice T n c), (8, .agg (cond24 al).toArray)]).run Tryz.prog w = .ok (.agg (row24 nm pt T n c al).toArray) w := by kernel_rfl
theorem inf18w : (Tryz.prog.info? 38).map (·.size) = some 18 := by kernel_rfl
set_option maxHeartbeats 4000000 in
theorem rule24_any (nm pt : ByteArray) (T : Option Addr) (n c : Nat) (al : ByteArray) (w : World) : Calls Tryz.prog 23 #[.string nm, .string pt, .slice T n c, .string al] w (Ret w (.agg (row24 nm pt T n c al).toArray)) := by
  obtain ⟨X, hX⟩ : ∃ X, X = (row24 nm pt T n c al).toArray := ⟨_, rfl⟩
  obtain ⟨C, hC⟩ : ∃ C, C = (cond24 al).toArray := ⟨_, rfl⟩
  have h1 := fun W => run_c24 al W
  have h2 := fun W => run_r24 nm pt T n c al W
  rw [← hC] at h1 h2
  rw [← hX] at h2 ⊢
  have sX : X.size = 18 := by rw [hX]; rfl
  have iX : (Tryz.prog.info? 38).map (·.size) = some X.size := by rw [sX]; exact inf18w
  have oX : X.all (·.oneCell') = true := by rw [hX, List.all_toArray]; rfl
  have H1 := Lib.hid h1; have H2 := Lib.hid h2; have SX := Lib.hid sX; have IX := Lib.hid iX; have OX := Lib.hid oX
  clear h1 h2 sX iX oX hX hC
  have hz : (w.alloc (.cells ruleZ24 38)).heap[w.heap.size]? = some (.cells ruleZ24 38 (0, 0)) := heap_alloc_new w _
  go_enter Tryz.func23, Tryz.ntmps23
  go_wp2_with (first
    | (refine wpList_build_as rfl _ _ rfl _ (by kernel_rfl) _ (H1.out _) ?_)
    | (refine wpList_build_as rfl _ _ rfl _ (by kernel_rfl) _ (H2.out _) ?_)
    | (refine wpList_store_row rfl _ _ _ rfl w.heap.size X rfl rfl _ ruleZ24 hz IX.out (SX.out ▸ rfl) OX.out ?_))
  have a0 : ((w.alloc (.cells ruleZ24 38)).setRow w.heap.size X).heap[w.heap.size]? = some (.cells X 38 (0, 0)) := setRow_heap _ _ _ _ _ _ hz
  have hb : Below w.heap.size w ((w.alloc (.cells ruleZ24 38)).setRow w.heap.size X) := below_setRow (balloc (Below.refl _ _) _) (Nat.le_refl _) _
  exact bodyPost_ret (v := .agg X) (results_cell_row rfl _ _ _ _ _ _ _ rfl a0 Tryz.underlying38 rfl IX.out) rfl ⟨rfl, hb⟩
end Go.Proofs.YtmlhecjhjjlhfaaGreatDoor
namespace Go.Proofs.YtmlhecjhjjlhfaaGreatDoor
open Go.RowKit Go.Sort
set_option linter.unusedVariables false
set_option linter.unusedSimpArgs false
set_option maxRecDepth 100000
theorem gapE {p : ByteArray} {bs : List ByteArray} (W : World) (hp : p.size ≤ 300) (hn : bs.length ≤ 10) (hs : ∀ b ∈ bs, b.size ≤ 300) (hok : gapOk p bs = true) (hE : Env W) (hT : Tab W) :
    Calls Tryz.prog 12 #[.string p, .slice (some ⟨W.heap.size, 0, none⟩) bs.length bs.length] (W.alloc (.cells (bs.map Value.string).toArray 9)) fun e w' => ∃ s is, e = .returned (.tuple #[.string s, .bool is, .int .i64 0]) ∧ GapPost p bs s is ∧ s.size ≤ 4096 ∧ Below W.heap.size W w' := by
  have hal : Below W.heap.size W (W.alloc (.cells (bs.map Value.string).toArray 9)) := balloc (Below.refl _ _) _
  have hR := reads_new W 9 (bs.map Value.string) bs.length (by simp)
  refine (gap_any p (some ⟨W.heap.size, 0, none⟩) bs.length bs.length bs _ (by omega) hR (.inl hn) hs (hE.keep hal) (hT.keep hal)).mono ?_
  rintro e w' ⟨s, is, er, rfl, hr, hb⟩
  rcases hr with ⟨h, _⟩ | ⟨_, rfl, hg, hz⟩
  · rw [hok] at h; cases h
  · exact ⟨s, is, rfl, hg, hz, bstep hal hb⟩
theorem gapE1 (W : World) (hE : Env W) (hT : Tab W) : Calls Tryz.prog 12 #[.string (⟨#[97, 99, 109, 101, 47, 42, 42]⟩ : ByteArray), .slice (some ⟨W.heap.size, 0, none⟩) 3 3] (W.alloc (.cells #[.string (⟨#[97, 99, 109, 101]⟩ : ByteArray), .string (⟨#[97, 99, 109, 101, 47, 42]⟩ : ByteArray), .string (⟨#[97, 99, 109, 101, 47, 42, 47, 42, 42]⟩ : ByteArray)] 9)) fun e w' => ∃ s, e = .returned (.tuple #[.string s, .bool false, .int .i64 0]) ∧ Below W.heap.size W w' :=
  (gapE (p := (⟨#[97, 99, 109, 101, 47, 42, 42]⟩ : ByteArray)) (bs := [(⟨#[97, 99, 109, 101]⟩ : ByteArray), (⟨#[97, 99, 109, 101, 47, 42]⟩ : ByteArray), (⟨#[97, 99, 109, 101, 47, 42, 47, 42, 42]⟩ : ByteArray)]) W (by decide) (by decide) (by decide) (by decide +kernel) hE hT).mono fun e w' ⟨s, is, he, hg, _, hb⟩ => ⟨s, by rw [he, g1 hg], hb⟩
theorem gapE2 (W : World) (hE : Env W) (hT : Tab W) : Calls Tryz.prog 12 #[.string (⟨#[97, 99, 109, 101, 47, 42, 42]⟩ : ByteArray), .slice (some ⟨W.heap.size, 0, none⟩) 2 2] (W.alloc (.cells #[.string (⟨#[97, 99, 109, 101, 47, 42]⟩ : ByteArray), .string (⟨#[97, 99, 109, 101, 47, 42, 47, 42, 42]⟩ : ByteArray)] 9)) fun e w' => e = .returned (.tuple #[.string (⟨#[97, 99, 109, 101]⟩ : ByteArray), .bool true, .int .i64 0]) ∧ Below W.heap.size W w' :=
  (gapE (p := (⟨#[97, 99, 109, 101, 47, 42, 42]⟩ : ByteArray)) (bs := [(⟨#[97, 99, 109, 101, 47, 42]⟩ : ByteArray), (⟨#[97, 99, 109, 101, 47, 42, 47, 42, 42]⟩ : ByteArray)]) W (by decide) (by decide) (by decide) (by decide +kernel) hE hT).mono fun e w' ⟨s, is, he, hg, _, hb⟩ => ⟨by rw [he, (g2 hg).1, (g2 hg).2], hb⟩
theorem gapE3 (W : World) (hE : Env W) (hT : Tab W) : Calls Tryz.prog 12 #[.string (⟨#[97, 99, 109, 101, 47, 42]⟩ : ByteArray), .slice (some ⟨W.heap.size, 0, none⟩) 2 2] (W.alloc (.cells #[.string (⟨#[97, 99, 109, 101, 47, 42, 46, 99, 115, 115]⟩ : ByteArray), .string (⟨#[97, 99, 109, 101, 47, 97]⟩ : ByteArray)] 9)) fun e w' => ∃ s, e = .returned (.tuple #[.string s, .bool true, .int .i64 0]) ∧ (matchB (⟨#[97, 99, 109, 101, 47, 42]⟩ : ByteArray) s = true ∧ matchB (⟨#[97, 99, 109, 101, 47, 42, 46, 99, 115, 115]⟩ : ByteArray) s = false ∧ (s.toList == ((⟨#[97, 99, 109, 101, 47, 97]⟩ : ByteArray) : ByteArray).toList) = false) ∧ s.size ≤ 4096 ∧ Below W.heap.size W w' :=
  (gapE (p := (⟨#[97, 99, 109, 101, 47, 42]⟩ : ByteArray)) (bs := [(⟨#[97, 99, 109, 101, 47, 42, 46, 99, 115, 115]⟩ : ByteArray), (⟨#[97, 99, 109, 101, 47, 97]⟩ : ByteArray)]) W (by decide) (by decide) (by decide) (by decide +kernel) hE hT).mono fun e w' ⟨s, is, he, hg, hz, hb⟩ => ⟨s, by rw [he, (g3 hg).1], (g3 hg).2, hz, hb⟩
theorem rFit (T U : Option Addr) : ∀ x ∈ rL T U, RuleFits x.r := by
  have hA : fewR (rA none).r = true := by decide +kernel
  have hB : fewR (rB none).r = true := by decide +kernel
  have hC : fewR rC.r = true := by decide +kernel
  intro x hx
  unfold rL at hx
  rcases List.mem_cons.1 hx with rfl | hx
  · exact fewR_fits hA
  rcases List.mem_cons.1 hx with rfl | hx
  · exact fewR_fits hB
  rcases List.mem_cons.1 hx with rfl | hx
  · exact fewR_fits hC
  · cases hx
theorem rCap (T U : Option Addr) : ∀ x ∈ rL T U, RuleCaps x := by
  intro x hx
  unfold rL at hx
  rcases List.mem_cons.1 hx with rfl | hx
  · exact ⟨Nat.le_refl _, fun y hy => (by cases hy), Nat.le_refl _⟩
  rcases List.mem_cons.1 hx with rfl | hx
  · exact ⟨Nat.le_refl _, fun y hy => (by cases hy), Nat.le_refl _⟩
  rcases List.mem_cons.1 hx with rfl | hx
  · exact ⟨Nat.le_refl _, fun y hy => (by cases hy), Nat.le_refl _⟩
  · cases hx
theorem okL (T U : Option Addr) (i : Int) (h0 : 0 ≤ i) (h1 : i < 3) : shOk (rL T U) i = true := by
  unfold shOk
  rw [vL, decide_eq_true h0, decide_eq_true (show i < ((rL T U).length : Int) from h1)]
  rfl
theorem shE1 {A T U : Option Addr} (W : World) (hL : RulesRead W A 3 (rL T U)) (hE : Env W) (hT : Tab W) : Calls Tryz.prog 13 #[.slice A 3 3, .int .i64 1] W fun e w' => ∃ s, e = .returned (.tuple #[.string s, .bool true, .int .i64 0]) ∧ Below W.heap.size W w' := by
  refine (shadowed_any A 3 3 1 (rL T U) W hL (rFit T U) (rCap T U) (Nat.le_refl _) (by decide) hE hT).mono ?_
  rintro e w' ⟨s, is, er, rfl, hr, hb⟩
  rcases hr with ⟨h, _⟩ | ⟨_, rfl, x, hx, hr⟩
  · rw [okL T U 1 (by decide) (by decide)] at h; cases h
  · have hx2 : x = rB U := (Option.some.inj (show (rL T U)[1]? = some x from hx)).symm
    subst hx2
    rcases hr with ⟨h, _⟩ | ⟨_, g, rfl, hg, _⟩
    · exact absurd tB h
    · have h2 : GapPost (⟨#[97, 99, 109, 101, 47, 97]⟩ : ByteArray) [(⟨#[97, 99, 109, 101, 47, 42, 42]⟩ : ByteArray)] s g := by
        have h3 := hg
        rw [show befK (rL T U) (rB U).r.tags (Int.toNat 1) = [(⟨#[97, 99, 109, 101, 47, 42, 42]⟩ : ByteArray)] from bB T U] at h3
        exact h3
      rw [gs1 h2]
      exact ⟨s, rfl, hb⟩
theorem shE2 {A T U : Option Addr} (W : World) (hL : RulesRead W A 3 (rL T U)) (hE : Env W) (hT : Tab W) : Calls Tryz.prog 13 #[.slice A 3 3, .int .i64 2] W (Ret W (.tuple #[.string (⟨#[97, 99, 109, 101, 47, 97]⟩ : ByteArray), .bool false, .int .i64 0])) := by
  refine (shadowed_any A 3 3 2 (rL T U) W hL (rFit T U) (rCap T U) (Nat.le_refl _) (by decide) hE hT).mono ?_
  rintro e w' ⟨s, is, er, rfl, hr, hb⟩
  rcases hr with ⟨h, _⟩ | ⟨_, rfl, x, hx, hr⟩
  · rw [okL T U 2 (by decide) (by decide)] at h; cases h
  · have hx2 : x = rC := (Option.some.inj (show (rL T U)[2]? = some x from hx)).symm
    subst hx2
    rcases hr with ⟨h, _⟩ | ⟨_, g, rfl, hg, _⟩
    · exact absurd t0 h
    · have h2 : GapPost (⟨#[97, 99, 109, 101, 47, 97]⟩ : ByteArray) [] s g := by
        have h3 := hg
        rw [show befK (rL T U) rC.r.tags (Int.toNat 2) = [] from bC T U] at h3
        exact h3
      rw [(gs2 h2).1, (gs2 h2).2]
      exact ⟨rfl, hb⟩
theorem pmC : pmeet rC.r.pat rC.r.allow.pat = none := by decide +kernel
theorem pmAa : pmeet (⟨#[97, 99, 109, 101, 47, 42, 42]⟩ : ByteArray) ⟨#[]⟩ = some (⟨#[97, 99, 109, 101, 47, 42, 42]⟩ : ByteArray) := by decide +kernel
theorem deE2 {A T U : Option Addr} (W : World) (hL : RulesRead W A 3 (rL T U)) (hE : Env W) (hT : Tab W) : Calls Tryz.prog 14 #[.slice A 3 3, .int .i64 2] W fun e w' => ∃ a, e = .returned (.tuple #[AskV.val a, .bool true, .int .i64 0]) ∧ Below W.heap.size W w' := by
  refine (dead_good A 3 3 2 (rL T U) rC W hL (rFit T U) (rCap T U) (Nat.le_refl _) (by decide) hE hT (vL T U) rfl).mono ?_
  rintro e w' ⟨a, is, rfl, hr, hb⟩
  rcases hr with ⟨rfl, _⟩ | ⟨rfl, _, _, m, s, hm, _⟩
  · exact ⟨a, rfl, hb⟩
  · rw [pmC] at hm; cases hm
theorem deE0 {A T U : Option Addr} (W : World) (hL : RulesRead W A 3 (rL T U)) (hE : Env W) (hT : Tab W) : Calls Tryz.prog 14 #[.slice A 3 3, .int .i64 0] W fun e w' => ∃ a, e = .returned (.tuple #[AskV.val a, .bool false, .int .i64 0]) ∧ (holdsC (rA T).r.allow a = true ∧ AskFits a) ∧ Below W.heap.size W w' := by
  refine (dead_good A 3 3 0 (rL T U) (rA T) W hL (rFit T U) (rCap T U) (Nat.le_refl _) (by decide) hE hT (vL T U) rfl).mono ?_
  rintro e w' ⟨a, is, rfl, hr, hb⟩
  have hbe : befK (rL T U) (rA T).r.tags 0 = [] := rfl
  have hpm : pmeet (rA T).r.pat (rA T).r.allow.pat = some (⟨#[97, 99, 109, 101, 47, 42, 42]⟩ : ByteArray) := pmAa
  rcases hr with ⟨_, _, h | h | ⟨_, h⟩ | ⟨_, _, m, s, hm, hg⟩⟩ | ⟨rfl, _, _, m, s, hm, hg, hz, rfl⟩
  · exact absurd (show (tagsR [(⟨#[104, 111, 116]⟩ : ByteArray)]).2 = 0 by rw [tA]) h
  · exact absurd h (show ¬ ((1099511627777 : Int) ≤ 0) by decide)
  · rw [hpm] at h; cases h
  · exfalso
    rw [hpm] at hm
    have em := Option.some.inj hm
    subst em
    rw [hbe] at hg
    have := gd0 hg
    cases this
  · rw [hpm] at hm
    have em := Option.some.inj hm
    subst em
    have hv : validC (rA T).r.allow = true := (rule_ok (show validR (rA T).r = true from vA)).allow
    have hlv := live_ask (l := (rL T U).map ruleP) (i := 0) (r := ruleP (rA T)) (c := (rA T).r.allow) (m := (⟨#[97, 99, 109, 101, 47, 42, 42]⟩ : ByteArray)) (s := s) (T := (⟨#[104, 111, 116]⟩ : ByteArray)) rfl (by show (compileB (⟨#[97, 99, 109, 101, 47, 42, 42]⟩ : ByteArray)).isSome = true; rw [cTa]; rfl) ((valid_iff _).1 hv) (by show (0 : Int) < 1099511627777; decide) tA hpm (by rw [befK_eq]; exact hg)
    exact ⟨_, rfl, ⟨hlv.1, ⟨by show s.size ≤ 100000; omega, (show (⟨#[97]⟩ : ByteArray).size ≤ 100000 by decide), (show (⟨#[97, 97]⟩ : ByteArray).size ≤ 100000 by decide)⟩⟩, hb⟩
end Go.Proofs.YtmlhecjhjjlhfaaGreatDoor
