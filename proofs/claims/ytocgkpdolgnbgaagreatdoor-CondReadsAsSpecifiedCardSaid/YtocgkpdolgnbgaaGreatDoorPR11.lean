/- What the specification's Text of conditions returns. -/
import Derived.Test.YtocgkpdolgnbgaaGreatDoorPGM
import Derived.Test.YtocgkpdolgnbgaaGreatDoorPGI
import Derived.Test.YtocgkpdolgnbgaaGreatDoorProg
import Derived.WalkKit
import Derived.WalkSpells
import Derived.WalkLawsBesides
import Derived.Below
import Derived.Deep.QuietTactic
import Derived.BigQuiet
import Derived.Lib.QuietBelow
import Derived.Lib.Strings
import Derived.Lib.Hide
import Derived.Deep.RegionWith
import Derived.Deep.RegionHeld3
import Derived.Lib.IndexBytes
namespace Go.Proofs.YtocgkpdolgnbgaaGreatDoor
open Go.RowKit Go.Sort
set_option linter.unusedVariables false
set_option linter.unusedSimpArgs false
set_option maxRecDepth 100000
def WBox (w : World) (g : Nat) (s : ByteArray) (e : Int) : Prop := Blk w g 56 #[.string s, .int .i64 e] (0, 0)
theorem WBox.facts {w : World} {g : Nat} {s : ByteArray} {e : Int} (h : WBox w g s e) : w.cell? ⟨g, 0, none⟩ = some (.string s) ∧ w.cell? ⟨g, 1, none⟩ = some (.int .i64 e) ∧ w.frozen? ⟨g, 0, none⟩ = false ∧ w.frozen? ⟨g, 1, none⟩ = false ∧ g < w.heap.size :=
  ⟨Blk.cell h 0, Blk.cell h 1, blk_free0 h 0, blk_free0 h 1, Blk.lt h⟩
theorem textC_cat (c : CondV) : itoaB c.fr ++ ⟨#[32]⟩ ++ itoaB c.till ++ ⟨#[32]⟩ ++ orT c.pat ⟨#[126]⟩ ++ ⟨#[32]⟩ ++ joinT c.cl ++ ⟨#[32]⟩ ++ joinT c.co ++ ⟨#[32]⟩ ++ joinT (c.si.map itoaB) ++ ⟨#[32]⟩ ++ itoaB c.us = textC c := by
  refine bytes_ext ?_
  unfold textC fieldsC
  simp [Lib.join, Lib.join_cons, Lib.joinTail]
theorem lists_join_le (l : List ByteArray) (B : Nat) (h : ∀ x ∈ l, x.size ≤ B) : (Lib.join (lists l) [44]).length ≤ l.length * (B + 1) := by
  have := join_le 44 B (lists l) (by
    intro y hy
    unfold lists at hy
    obtain ⟨z, hz, rfl⟩ := List.mem_map.1 hy
    have := h z hz; rwa [Lib.size_eq] at this)
  rw [show (lists l).length = l.length by simp [lists]] at this
  exact this
theorem country_size {s : ByteArray} (h : countryB s = true) : s.size = 2 := by
  unfold countryB at h
  simp only [Bool.and_eq_true, decide_eq_true_eq] at h
  exact h.1
set_option maxHeartbeats 8000000 in
theorem rText21_bad (c : CondV) (m : CondMem) (w : World) (hR : CondReads w c m) (hc : CondFits c) (hv : validC c = false) :
    Calls Tryz.prog 26 #[CondMem.val c m] w (Ret w (.agg #[.string ⟨#[]⟩, .int .i64 1])) := by
  have c1 := fun W (hb : Below w.heap.size w W) => hv ▸ rValid21_any c m W (hR.keep hb) hc.p hc.cl hc.co hc.n1 hc.n2 hc.n3
  clear hR hc hv
  obtain ⟨fr, till, pat, cl, co, si, us⟩ := c
  obtain ⟨A, ca, B, cb, S, cs⟩ := m
  unfold CondMem.val at c1 ⊢
  dsimp only at c1 ⊢
  generalize cl.length = na at *
  generalize co.length = nb at *
  generalize si.length = ns at *
  have C1 := Lib.hid c1
  clear c1
  go_enter Tryz.func26, Tryz.ntmps26
  go_wp2_with (go_at_call 27; refine (C1.out _ (by (repeat (first | exact .refl _ _ | assumption | refine .drew ?_ | refine balloc ?_ _ | refine bdrewN ?_ _ | refine .setCell ?_ (by simp <;> omega) _ | refine bstep ?_ (by assumption))))).mono ?_; rintro e w2 ⟨rfl, hb2⟩; have hX2 : CBox w2 w.heap.size fr till pat A na ca B nb cb S ns cs us := Blk.keep (two_box _ _ _).1 hb2; have hK2 : WBox w2 (w.heap.size + 1) ⟨#[]⟩ 0 := Blk.keep (two_box _ _ _).2 hb2; have hbw : Below w.heap.size w w2 := (by (repeat (first | exact .refl _ _ | assumption | refine .drew ?_ | refine balloc ?_ _ | refine bdrewN ?_ _ | refine .setCell ?_ (by simp <;> omega) _ | refine bstep ?_ (by assumption)))); obtain ⟨x0, x1, x2, x3, x4, x5, x6⟩ := hX2.facts; obtain ⟨k0, k1, g0, g1, hz2⟩ := hK2.facts)
  exact bodyPost_ret (v := .agg #[.string ⟨#[]⟩, .int .i64 1]) (by simp [results, Tryz.results26, go_sem, hz2, k0, k1, g0, g1]) rfl ⟨rfl, by (repeat (first | exact .refl _ _ | assumption | refine .drew ?_ | refine balloc ?_ _ | refine bdrewN ?_ _ | refine .setCell ?_ (by simp <;> omega) _ | refine bstep ?_ (by assumption)))⟩
set_option maxHeartbeats 16000000 in
theorem rText21_good (c : CondV) (m : CondMem) (w : World) (hR : CondReads w c m) (hc : CondFits c) (hv : validC c = true) :
    Calls Tryz.prog 26 #[CondMem.val c m] w (Ret w (.agg #[.string (textC c), .int .i64 0])) := by
  have ok := (valid_iff c).1 hv
  have c1 := fun W (hb : Below w.heap.size w W) => hv ▸ rValid21_any c m W (hR.keep hb) hc.p hc.cl hc.co hc.n1 hc.n2 hc.n3
  have hsi : ∀ x ∈ c.si, 0 ≤ x ∧ x < 64 := fun x hx => by have := ok.si x hx; unfold siteB at this; simpa using this
  have hss : ∀ y ∈ c.si.map itoaB, y.size ≤ 21 := fun y hy => by
    obtain ⟨x, hx, rfl⟩ := List.mem_map.1 hy
    have := hsi x hx
    exact itoa_size x (by omega) (by omega)
  have hsz : ∀ y ∈ c.si.map itoaB, y.size ≠ 0 := fun y hy => by
    obtain ⟨x, hx, rfl⟩ := List.mem_map.1 hy
    exact (num_not x (hsi x hx).1).1
  have d1 := fun W => rDecimal_any c.fr.toNat W (by have := ok.fr1; omega)
  have d2 := fun W => rDecimal_any c.till.toNat W (by have := ok.to1; omega)
  have d3 := fun W => rDecimal_any c.us.toNat W (by have := ok.us1; omega)
  rw [Int.toNat_of_nonneg ok.fr0] at d1
  rw [Int.toNat_of_nonneg ok.to0] at d2
  rw [Int.toNat_of_nonneg ok.us0] at d3
  have dx : ∀ x ∈ c.si, ∀ W, Calls Tryz.prog 73 #[.int .i64 x] W (Ret W (.string (itoaB x))) := fun x hx W => by
    have h := hsi x hx
    have := rDecimal_any x.toNat W (by omega)
    rwa [Int.toNat_of_nonneg h.1] at this
  have hnm : ∀ x ∈ c.cl, x.size ≤ 64 := fun x hx => size_of_name (ok.cl x hx)
  have hnc : ∀ x ∈ c.co, x.size ≤ 64 := fun x hx => by have := country_size (ok.co x hx); omega
  have l1 := ok.clLen; have l2 := ok.coLen; have l3 := ok.siLen
  have q1 := lists_join_le c.cl 64 hnm
  have q2 := lists_join_le c.co 64 hnc
  have q3 := lists_join_le (c.si.map itoaB) 21 hss
  rw [List.length_map] at q3
  have j1 := fun W (hb : Below w.heap.size w W) => rJoined21_any m.A c.cl.length m.ca c.cl W (hR.cl.keep hb) (by omega) (by omega) (fun x hx => by have := hnm x hx; omega)
  have j2 := fun W (hb : Below w.heap.size w W) => rJoined21_any m.B c.co.length m.cb c.co W (hR.co.keep hb) (by omega) (by omega) (fun x hx => by have := hnc x hx; omega)
  have j3 := fun (A' : Option Addr) (c' : Nat) W (hr : Reads W 1 A' c.si.length ((c.si.map itoaB).map .string)) => rJoined21_any A' c.si.length c' (c.si.map itoaB) W hr (by omega) (by omega) (fun x hx => by have := hss x hx; omega)
  rw [joinR_eq (fun x hx => (name_not (ok.cl x hx)).1)] at j1
  rw [joinR_eq (fun x hx => (country_not (ok.co x hx)).1)] at j2
  rw [joinR_eq hsz] at j3
  have hs1 := itoa_size c.fr (by have := ok.fr0; omega) (by have := ok.fr1; omega)
  have hs2 := itoa_size c.till (by have := ok.to0; omega) (by have := ok.to1; omega)
  have hs3 := itoa_size c.us (by have := ok.us0; omega) (by have := ok.us1; omega)
  have hs4 := orT_size c.pat
  have hp := hc.p
  have hs5 := joinT_len 64 c.cl hnm
  have hs6 := joinT_len 64 c.co hnc
  have hs7 := joinT_len 21 (c.si.map itoaB) hss
  rw [List.length_map] at hs7
  have hor : (orT c.pat ⟨#[126]⟩ = ⟨#[126]⟩ ∧ (c.pat.toList == []) = true ∧ c.pat.toList = []) ∨ (orT c.pat ⟨#[126]⟩ = c.pat ∧ (c.pat.toList == []) = false ∧ ¬ c.pat.toList = []) := by
    unfold orT
    by_cases h : c.pat.size = 0
    · have e : c.pat.toList = [] := by rw [Lib.toList_data]; exact List.eq_nil_of_length_eq_zero (by rw [← Lib.size_eq]; exact h)
      exact .inl ⟨by rw [if_pos h], by rw [e]; rfl, e⟩
    · have e : ¬ c.pat.toList = [] := fun e => h (by rw [Lib.toList_data] at e; rw [Lib.size_eq, e]; rfl)
      exact .inr ⟨by rw [if_neg h], by simpa using e, e⟩
  have hT := textC_cat c
  generalize textC c = T at *
  have hls : c.si.length = c.si.length := rfl
  obtain ⟨fr, till, pat, cl, co, si, us⟩ := c
  obtain ⟨A, ca, B, cb, S, cs⟩ := m
  have hS := hR.si
  unfold CondMem.val at c1 ⊢
  dsimp only at c1 d1 d2 d3 dx j1 j2 j3 hs1 hs2 hs3 hs4 hs5 hs6 hs7 hor hT hS l1 l2 l3 hp ⊢
  generalize joinT cl = t1 at *
  generalize joinT co = t2 at *
  generalize joinT (si.map itoaB) = t3 at *
  generalize itoaB fr = u1 at *
  generalize itoaB till = u2 at *
  generalize itoaB us = u3 at *
  generalize orT pat ⟨#[126]⟩ = pp at *
  obtain ⟨ns, hns⟩ : ∃ ns, ns = si.length := ⟨_, rfl⟩
  rw [← hns] at c1 j3 hS l3 ⊢
  generalize cl.length = na at *
  generalize co.length = nb at *
  obtain ⟨i0, hi0, hz0, hz1, hz2⟩ := info_parts infoStr
  have HI : Hid ((Tryz.prog.info? 9 = some i0) ∧ i0.zero = some (.string ⟨#[]⟩) ∧ i0.size = 1 ∧ i0.bytes = 16) := Lib.hid ⟨hi0, hz0, hz1, hz2⟩
  have C1 := Lib.hid c1; have D1 := Lib.hid d1; have D2 := Lib.hid d2; have D3 := Lib.hid d3; have DX := Lib.hid dx; have J1 := Lib.hid j1; have J2 := Lib.hid j2; have J3 := Lib.hid j3
  have HS := Lib.hid hS; have HNS := Lib.hid hns; have HT := Lib.hid hT; have HOR := Lib.hid hor
  have HSZ : Hid (u1.size ≤ 21 ∧ u2.size ≤ 21 ∧ u3.size ≤ 21 ∧ pp.size ≤ 200000 ∧ t1.size ≤ 100000 ∧ t2.size ≤ 100000 ∧ t3.size ≤ 100000) := Lib.hid ⟨hs1, hs2, hs3, by omega, by omega, by omega, by omega⟩
  clear c1 d1 d2 d3 dx j1 j2 j3 hS hns hT hor hs1 hs2 hs3 hs4 hs5 hs6 hs7 hsi hss hsz hnm hnc q1 q2 q3 l1 l2 hp hi0 hz0 hz1 hz2 hls ok hv hR hc
  go_enter Tryz.func26, Tryz.ntmps26
  go_wp2_with (go_at_call 27; refine (C1.out _ (by (repeat (first | exact .refl _ _ | assumption | refine .drew ?_ | refine balloc ?_ _ | refine bdrewN ?_ _ | refine .setCell ?_ (by simp <;> omega) _ | refine bstep ?_ (by assumption))))).mono ?_; rintro e w2 ⟨rfl, hb2⟩; have hX2 : CBox w2 w.heap.size fr till pat A na ca B nb cb S ns cs us := Blk.keep (two_box _ _ _).1 hb2; have hK2 : WBox w2 (w.heap.size + 1) ⟨#[]⟩ 0 := Blk.keep (two_box _ _ _).2 hb2; have hbw : Below w.heap.size w w2 := (by (repeat (first | exact .refl _ _ | assumption | refine .drew ?_ | refine balloc ?_ _ | refine bdrewN ?_ _ | refine .setCell ?_ (by simp <;> omega) _ | refine bstep ?_ (by assumption)))); obtain ⟨x0, x1, x2, x3, x4, x5, x6⟩ := hX2.facts; obtain ⟨k0, k1, g0, g1, hz2⟩ := hK2.facts)
  go_loopw [4, 5] (fun vl vi wr => ∃ (k : Nat) (A' : Option Addr) (c' : Nat), (vl = .slice A' k c' ∧ vi = .int .i64 k ∧ k ≤ ns) ∧ CBox wr w.heap.size fr till pat A na ca B nb cb S ns cs us ∧ WBox wr (w.heap.size + 1) ⟨#[]⟩ 0 ∧ wr.ownsRow (w.heap.size + 1 + 1) 9 1 (.slice A' k c') k (((si.map itoaB).take k).map .string) ∧ Below w.heap.size w wr) (fun _ vi _ => ns - (intOf vi).toNat)
  case atStart => exact ⟨0, none, 0, ⟨rfl, rfl, Nat.zero_le _⟩, hX2, hK2, World.ownsRow_nil _ _ _ _, hbw⟩
  case round =>
    clear hX2 hK2 hbw x0 x1 x2 x3 x4 x5 x6 k0 k1 g0 g1 hz2 hb2
    obtain ⟨k, A', c', ⟨rfl, rfl, hk⟩, hX, hK, hown, hbw⟩ := hrel
    obtain ⟨x0, x1, x2, x3, x4, x5, x6⟩ := hX.facts
    by_cases hlt : k < ns
    · obtain ⟨x, hx⟩ : ∃ x, si[k]? = some x := ⟨_, List.getElem?_eq_getElem (by have := HNS.out; omega)⟩
      obtain ⟨pb, po, rfl, hcell⟩ := (HS.out.keep hbw).2 (by omega)
      have hc1 : wr.cell? ⟨pb, po + k, none⟩ = some (.int .i64 x) := hcell k _ (by simp [hx])
      have hk0 : (0 : Int) ≤ (k : Int) := by omega
      have hk1 : (k : Int) < (ns : Int) := by omega
      have htk : (si.map itoaB).take (k + 1) = (si.map itoaB).take k ++ [itoaB x] := by rw [List.take_add_one, List.getElem?_map, hx]; rfl
      have HTK := Lib.hid htk
      have HD := Lib.hid (DX.out x (List.mem_of_getElem? hx))
      clear hcell hx htk
      go_wp2_with (first | (go_at_call 73; refine (HD.out _).mono ?_; rintro e w3 ⟨rfl, hb3⟩; have hown3 := ownsRow_keep hown hb3; have hbw3 := bstep hbw hb3; have hbs3 := hbw3.size; have hX3 := Blk.keep hX hb3; have hK3 := Blk.keep hK hb3; have hz3 := Blk.lt hK3) | (at_builtin; refine wpList_append_own _ rfl _ _ 22 rfl (w.heap.size + 1 + 1) 9 i0 (.string ⟨#[]⟩) 1 16 Tryz.underlying22 HI.out.1 HI.out.2.1 HI.out.2.2.1 HI.out.2.2.2 rfl (by decide) _ _ _ rfl (hown3.alloc _) ⟨w3.heap.size, 0, none⟩ 1 1 [.string (itoaB x)] rfl rfl (cell_one_new _ _ _) (by simp [Value.oneCell']) (by unfold maxLen; omega) (by omega) (by simp; omega) ?_; intro v' w4 hown4 hgrow _; obtain ⟨g1, cap1, rfl⟩ := ownsRow_succ hown4))
      have fr1 : ∀ j, j < w.heap.size + 1 + 1 → w4.heap[j]? = w3.heap[j]? := fun j hj => (hgrow.block j (by simp; omega) (fun e => by have := ownsRow_block hown3 _ e.symm; omega)).trans (Below.heap_alloc w3 _ j (by omega))
      refine ⟨⟨k + 1, some ⟨g1, 0, none⟩, cap1, ⟨rfl, by go_num, by omega⟩, (fr1 _ (by omega)).trans hX3, (fr1 _ (by omega)).trans hK3, by rw [HTK.out, List.map_append]; exact hown4, ?_⟩, by simp [intOf]; omega⟩
      exact (hbw3.alloc hbs3 _).grown hgrow (by simp; omega) (fun r e => by have := ownsRow_block hown3 r e; omega)
    · obtain rfl : k = ns := by omega
      have ht : (si.map itoaB).take k = si.map itoaB := List.take_of_length_le (by simp; have := HNS.out; omega)
      rw [ht] at hown
      have hr3 := Reads.of_own hown
      have j3 := fun W (hb : Below wr.heap.size wr W) => J3.out A' c' W (hr3.keep hb)
      have j1 := fun W (hb : Below wr.heap.size wr W) => J1.out W (bstep hbw hb)
      have j2 := fun W (hb : Below wr.heap.size wr W) => J2.out W (bstep hbw hb)
      obtain ⟨z1, z2, z3, z4, z5, z6, z7⟩ := HSZ.out
      have hTT := HT.out
      have K1 := Lib.hid j1; have K2 := Lib.hid j2; have K3 := Lib.hid j3; have HT2 := Lib.hid hTT
      have hor := HOR.out
      clear ht hown hr3 j1 j2 j3 J1 J2 J3 HT HOR HSZ C1 DX HS HNS hTT
      obtain ⟨k0, k1, g0, g1, hz⟩ := hK.facts
      rcases hor with ⟨e1, e2, e3⟩ | ⟨e1, e2, e3⟩
      · have E1 := Lib.hid e1
        have e4 : pat.toList.isEmpty = true := by rw [e3]; rfl
        clear e1
        go_upto_region 12 with fail
        rw [← E1.out]
        have n1 : ¬ 9223372036854775807 < u1.size + 1 := by omega
        have n2 : ¬ 9223372036854775807 < u1.size + 1 + u2.size := by omega
        have n3 : ¬ 9223372036854775807 < u1.size + 1 + u2.size + 1 := by omega
        have n4 : ¬ 9223372036854775807 < u1.size + 1 + u2.size + 1 + pp.size := by omega
        have n5 : ¬ 9223372036854775807 < u1.size + 1 + u2.size + 1 + pp.size + 1 := by omega
        have n6 : ¬ 9223372036854775807 < u1.size + 1 + u2.size + 1 + pp.size + 1 + t1.size := by omega
        have n7 : ¬ 9223372036854775807 < u1.size + 1 + u2.size + 1 + pp.size + 1 + t1.size + 1 := by omega
        have n8 : ¬ 9223372036854775807 < u1.size + 1 + u2.size + 1 + pp.size + 1 + t1.size + 1 + t2.size := by omega
        have n9 : ¬ 9223372036854775807 < u1.size + 1 + u2.size + 1 + pp.size + 1 + t1.size + 1 + t2.size + 1 := by omega
        have n10 : ¬ 9223372036854775807 < u1.size + 1 + u2.size + 1 + pp.size + 1 + t1.size + 1 + t2.size + 1 + t3.size := by omega
        have n11 : ¬ 9223372036854775807 < u1.size + 1 + u2.size + 1 + pp.size + 1 + t1.size + 1 + t2.size + 1 + t3.size + 1 := by omega
        have n12 : ¬ 9223372036854775807 < u1.size + 1 + u2.size + 1 + pp.size + 1 + t1.size + 1 + t2.size + 1 + t3.size + 1 + u3.size := by omega
        clear z1 z2 z3 z4 z5 z6 z7
        have hcu : Below wr.heap.size wr wr.drew := Below.drew (Below.refl _ _)
        go_region_held3 (fun w' => w'.cell? ⟨w.heap.size, 0, none⟩ = some (.int .i64 fr) ∧ w'.cell? ⟨w.heap.size, 1, none⟩ = some (.int .i64 till) ∧ w'.cell? ⟨w.heap.size, 2, none⟩ = some (.string pat) ∧ w'.cell? ⟨w.heap.size, 3, none⟩ = some (.slice A na ca) ∧ w'.cell? ⟨w.heap.size, 4, none⟩ = some (.slice B nb cb) ∧ w'.cell? ⟨w.heap.size, 5, none⟩ = some (.slice S k cs) ∧ w'.cell? ⟨w.heap.size, 6, none⟩ = some (.int .i64 us) ∧ Below w.heap.size w w')
          (first | exact ⟨x0, x1, x2, x3, x4, x5, x6, Below.drew hbw⟩ | (go_split_ands; refine ⟨?_, ?_, ?_, ?_, ?_, ?_, ?_, ?_⟩ <;> first | assumption | (refine cell_keep hb4 ?_; assumption) | (refine bstep ?_ hb4; assumption) | (refine Eq.trans (World.cell?_setCell_far _ _ _ _ (by simp)) (Eq.trans (World.cell?_setCell_far _ _ _ _ (by simp)) ?_); assumption) | (refine Below.setCell (Below.setCell ?_ (by simp) _) (by simp) _; assumption)))
          (first | (go_at_call 73; (first | (with_reducible refine (D1.out _).mono ?_) | (with_reducible refine (D2.out _).mono ?_) | (with_reducible refine (D3.out _).mono ?_)); rintro e w4 ⟨rfl, hb4⟩; replace hcu := bstep hcu hb4; have hKc := Blk.keep hK hcu; (try clear k0 k1 g0 g1 hz); obtain ⟨k0, k1, g0, g1, hz⟩ := WBox.facts hKc) | (go_at_call 74; (first | (with_reducible refine (K1.out _ hcu).mono ?_) | (with_reducible refine (K2.out _ hcu).mono ?_) | (with_reducible refine (K3.out _ hcu).mono ?_)); rintro e w4 ⟨rfl, hb4⟩; replace hcu := bstep hcu hb4; have hKc := Blk.keep hK hcu; (try clear k0 k1 g0 g1 hz); obtain ⟨k0, k1, g0, g1, hz⟩ := WBox.facts hKc))
        all_goals go_wp2
        all_goals exact bodyPost_ret (v := .agg #[.string T, .int .i64 0]) (by simp [results, Tryz.results26, go_sem, hz, k0, k1, g0, g1, HT2.out]) rfl ⟨rfl, by go_split_ands; assumption⟩
      · have E1 := Lib.hid e1
        have e4 : pat.toList.isEmpty = false := by simpa using e3
        clear e1
        go_upto_region 12 with fail
        rw [← E1.out]
        have n1 : ¬ 9223372036854775807 < u1.size + 1 := by omega
        have n2 : ¬ 9223372036854775807 < u1.size + 1 + u2.size := by omega
        have n3 : ¬ 9223372036854775807 < u1.size + 1 + u2.size + 1 := by omega
        have n4 : ¬ 9223372036854775807 < u1.size + 1 + u2.size + 1 + pp.size := by omega
        have n5 : ¬ 9223372036854775807 < u1.size + 1 + u2.size + 1 + pp.size + 1 := by omega
        have n6 : ¬ 9223372036854775807 < u1.size + 1 + u2.size + 1 + pp.size + 1 + t1.size := by omega
        have n7 : ¬ 9223372036854775807 < u1.size + 1 + u2.size + 1 + pp.size + 1 + t1.size + 1 := by omega
        have n8 : ¬ 9223372036854775807 < u1.size + 1 + u2.size + 1 + pp.size + 1 + t1.size + 1 + t2.size := by omega
        have n9 : ¬ 9223372036854775807 < u1.size + 1 + u2.size + 1 + pp.size + 1 + t1.size + 1 + t2.size + 1 := by omega
        have n10 : ¬ 9223372036854775807 < u1.size + 1 + u2.size + 1 + pp.size + 1 + t1.size + 1 + t2.size + 1 + t3.size := by omega
        have n11 : ¬ 9223372036854775807 < u1.size + 1 + u2.size + 1 + pp.size + 1 + t1.size + 1 + t2.size + 1 + t3.size + 1 := by omega
        have n12 : ¬ 9223372036854775807 < u1.size + 1 + u2.size + 1 + pp.size + 1 + t1.size + 1 + t2.size + 1 + t3.size + 1 + u3.size := by omega
        clear z1 z2 z3 z4 z5 z6 z7
        have hcu : Below wr.heap.size wr wr.drew := Below.drew (Below.refl _ _)
        go_region_held3 (fun w' => w'.cell? ⟨w.heap.size, 0, none⟩ = some (.int .i64 fr) ∧ w'.cell? ⟨w.heap.size, 1, none⟩ = some (.int .i64 till) ∧ w'.cell? ⟨w.heap.size, 2, none⟩ = some (.string pat) ∧ w'.cell? ⟨w.heap.size, 3, none⟩ = some (.slice A na ca) ∧ w'.cell? ⟨w.heap.size, 4, none⟩ = some (.slice B nb cb) ∧ w'.cell? ⟨w.heap.size, 5, none⟩ = some (.slice S k cs) ∧ w'.cell? ⟨w.heap.size, 6, none⟩ = some (.int .i64 us) ∧ Below w.heap.size w w')
          (first | exact ⟨x0, x1, x2, x3, x4, x5, x6, Below.drew hbw⟩ | (go_split_ands; refine ⟨?_, ?_, ?_, ?_, ?_, ?_, ?_, ?_⟩ <;> first | assumption | (refine cell_keep hb4 ?_; assumption) | (refine bstep ?_ hb4; assumption) | (refine Eq.trans (World.cell?_setCell_far _ _ _ _ (by simp)) (Eq.trans (World.cell?_setCell_far _ _ _ _ (by simp)) ?_); assumption) | (refine Below.setCell (Below.setCell ?_ (by simp) _) (by simp) _; assumption)))
          (first | (go_at_call 73; (first | (with_reducible refine (D1.out _).mono ?_) | (with_reducible refine (D2.out _).mono ?_) | (with_reducible refine (D3.out _).mono ?_)); rintro e w4 ⟨rfl, hb4⟩; replace hcu := bstep hcu hb4; have hKc := Blk.keep hK hcu; (try clear k0 k1 g0 g1 hz); obtain ⟨k0, k1, g0, g1, hz⟩ := WBox.facts hKc) | (go_at_call 74; (first | (with_reducible refine (K1.out _ hcu).mono ?_) | (with_reducible refine (K2.out _ hcu).mono ?_) | (with_reducible refine (K3.out _ hcu).mono ?_)); rintro e w4 ⟨rfl, hb4⟩; replace hcu := bstep hcu hb4; have hKc := Blk.keep hK hcu; (try clear k0 k1 g0 g1 hz); obtain ⟨k0, k1, g0, g1, hz⟩ := WBox.facts hKc))
        all_goals go_wp2
        all_goals exact bodyPost_ret (v := .agg #[.string T, .int .i64 0]) (by simp [results, Tryz.results26, go_sem, hz, k0, k1, g0, g1, HT2.out]) rfl ⟨rfl, by go_split_ands; assumption⟩
end Go.Proofs.YtocgkpdolgnbgaaGreatDoor
