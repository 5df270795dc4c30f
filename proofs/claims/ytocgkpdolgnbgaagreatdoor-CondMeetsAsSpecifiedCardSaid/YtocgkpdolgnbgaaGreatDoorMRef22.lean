/- What the specification's Both returns. -/
import Derived.Test.YtocgkpdolgnbgaaGreatDoorMRef21
import Derived.Test.YtocgkpdolgnbgaaGreatDoorMJB
import Derived.Test.YtocgkpdolgnbgaaGreatDoorProg
import Derived.WalkKit
import Derived.WalkSpells
import Derived.WalkLawsBesides
import Derived.Below
import Derived.Deep.QuietTactic
import Derived.BigQuiet
import Derived.Lib.QuietBelow
import Derived.Lib.Strings
import Derived.Lib.Hide
import Derived.Deep.RegionWith
import Derived.Deep.RegionHeld3
import Derived.Lib.IndexBytes
namespace Go.Proofs.YtocgkpdolgnbgaaGreatDoor
open Go.RowKit Go.Sort
set_option linter.unusedVariables false
set_option linter.unusedSimpArgs false
set_option maxRecDepth 100000
def bothR (r : Option (Option Pat)) : ByteArray × Bool × Int := match r with
  | none => (⟨#[]⟩, false, 1)
  | some none => (⟨#[]⟩, false, 0)
  | some (some z) => (patS z, true, 0)
theorem bothV_R (r : Option (Option Pat)) : bothV r = .tuple #[.string (bothR r).1, .bool (bothR r).2.1, .int .i64 (bothR r).2.2] := by
  rcases r with _ | _ | z <;> rfl
def JBox (w : World) (g : Nat) (s : ByteArray) (b : Bool) (e : Int) : Prop := Blk w g 135 #[.string s, .bool b, .int .i64 e] (0, 0)
theorem JBox.facts {w : World} {g : Nat} {s : ByteArray} {b : Bool} {e : Int} (h : JBox w g s b e) : w.cell? ⟨g, 0, none⟩ = some (.string s) ∧ w.cell? ⟨g, 1, none⟩ = some (.bool b) ∧ w.cell? ⟨g, 2, none⟩ = some (.int .i64 e) ∧ w.frozen? ⟨g, 0, none⟩ = false ∧ w.frozen? ⟨g, 1, none⟩ = false ∧ w.frozen? ⟨g, 2, none⟩ = false :=
  ⟨Blk.cell h 0, Blk.cell h 1, Blk.cell h 2, blk_free0 h 0, blk_free0 h 1, blk_free0 h 2⟩
theorem pathL_bd (B : Nat) : ∀ l : List (List UInt8), (∀ p ∈ l, p.length ≤ B) → (pathL l).length ≤ l.length * (B + 1)
  | [], _ => by simp [pathL]
  | p :: l, h => by
    have h1 := h p (by simp)
    have h2 := pathL_bd B l (fun q hq => h q (by simp [hq]))
    simp only [pathL, List.flatMap_cons, List.length_append, List.length_cons] at h2 ⊢
    rw [Nat.add_mul]
    omega
theorem pathK_bd (c : ByteArray) (xs : List ByteArray) (k B : Nat) (h : ∀ x ∈ xs, x.size ≤ B) (hk : xs.length ≤ 100) : (toB (pathK c xs k)).size ≤ c.size + 100 * (B + 1) := by
  rw [toB_size]
  unfold pathK
  have := pathL_bd B ((lists xs).take k) (fun p hp => by
    obtain ⟨x, hx, rfl⟩ := List.mem_map.1 (List.mem_of_mem_take hp)
    have := h x hx
    rw [size_data] at this; exact this)
  have hl : ((lists xs).take k).length ≤ 100 := by
    rw [List.length_take]; simp [lists]; omega
  rw [List.length_append, size_data]
  have := Nat.mul_le_mul_right (B + 1) hl
  omega
theorem patS_path (z : Pat) : patS z = if z.tail then toB (pathK (strP z.cust) (strL z.parts) z.parts.length) ++ ⟨#[47, 42, 42]⟩ else toB (pathK (strP z.cust) (strL z.parts) z.parts.length) := by
  have hall : (lists (strL z.parts)).take z.parts.length = lists (strL z.parts) := List.take_of_length_le (by simp [lists, strL])
  have hd : (patS z).data.toList = (strP z.cust).data.toList ++ pathL (lists (strL z.parts ++ tailL z.tail)) := by
    rw [patS_eq]; exact join_data _ _
  have hl : lists (strL z.parts ++ tailL z.tail) = lists (strL z.parts) ++ lists (tailL z.tail) := by simp [lists]
  have hp : ∀ a b : List (List UInt8), pathL (a ++ b) = pathL a ++ pathL b := fun a b => by simp [pathL]
  rw [hl, hp] at hd
  refine bytes_ext ?_
  rw [hd]
  unfold pathK
  rw [hall]
  cases z.tail
  · simp [tailL, lists, pathL, toB]
  · simp [tailL, lists, pathL, toB]
set_option maxHeartbeats 2000000 in
theorem rBoth0 (p q : ByteArray) (w : World) (er : Int) (her : er = 0 ∨ er = 1) (HMT : Hid (∀ W, Calls Tryz.prog 137 #[.string p, .string q] W (Ret W (.agg #[.bool false, .int .i64 er])))) :
    Calls Tryz.prog 104 #[.string p, .string q] w (Ret w (.agg #[.string ⟨#[]⟩, .bool false, .int .i64 er])) := by
  rcases her with rfl | rfl
  · go_enter Tryz.func104, Tryz.ntmps104
    go_wp2_with (go_at_call 137; refine (HMT.out _).mono ?_; rintro e w1 ⟨rfl, hb1⟩; have hJ1 : JBox w1 w.heap.size ⟨#[]⟩ false 0 := Blk.keep (World.alloc_heap_new _ _) hb1; obtain ⟨j0, j1, j2, f0, f1, f2⟩ := hJ1.facts; have hz1 : w.heap.size < w1.heap.size := Blk.lt hJ1)
    exact bodyPost_ret (v := .agg #[.string ⟨#[]⟩, .bool false, .int .i64 0]) (by simp [results, Tryz.results104, go_sem, hz1, j0, j1, j2, f0, f1, f2]) rfl ⟨rfl, by (repeat (first | exact .refl _ _ | assumption | refine .drew ?_ | refine balloc ?_ _ | refine bdrewN ?_ _ | refine .setCell ?_ (by simp <;> omega) _ | refine bstep ?_ (by assumption)))⟩
  · go_enter Tryz.func104, Tryz.ntmps104
    go_wp2_with (go_at_call 137; refine (HMT.out _).mono ?_; rintro e w1 ⟨rfl, hb1⟩; have hJ1 : JBox w1 w.heap.size ⟨#[]⟩ false 0 := Blk.keep (World.alloc_heap_new _ _) hb1; obtain ⟨j0, j1, j2, f0, f1, f2⟩ := hJ1.facts; have hz1 : w.heap.size < w1.heap.size := Blk.lt hJ1)
    exact bodyPost_ret (v := .agg #[.string ⟨#[]⟩, .bool false, .int .i64 1]) (by simp [results, Tryz.results104, go_sem, hz1, j0, j1, j2, f0, f1, f2]) rfl ⟨rfl, by (repeat (first | exact .refl _ _ | assumption | refine .drew ?_ | refine balloc ?_ _ | refine bdrewN ?_ _ | refine .setCell ?_ (by simp <;> omega) _ | refine bstep ?_ (by assumption)))⟩
set_option maxHeartbeats 4000000 in
theorem rBoth1 (p q : ByteArray) (x y z : Pat) (w : World) (hx : PatFit x) (hy : PatFit y) (gx : PatGood x) (gy : PatGood y) (hxy : commonP x y = some z) (cu cv : ByteArray) (n m : Nat) (tl tm : Bool) (hcu : cu = strP x.cust) (hcv : cv = strP y.cust) (hn : n = x.parts.length) (hm : m = y.parts.length) (htl : tl = x.tail) (htm : tm = y.tail)
    (HMT : Hid (∀ W, Calls Tryz.prog 137 #[.string p, .string q] W (Ret W (.agg #[.bool true, .int .i64 0]))))
    (HC1 : Hid (CompAs p x cu n tl)) (HC2 : Hid (CompAs q y cv m tm)) : Calls Tryz.prog 104 #[.string p, .string q] w (Ret w (.agg #[.string (patS z), .bool true, .int .i64 0])) := by
  obtain ⟨e1, e2, e3, e4⟩ := common_at hx hy hxy
  obtain ⟨V, hV⟩ : ∃ V, V = patS z := ⟨_, rfl⟩
  rw [← hV]
  rw [patS_path, e1, e2, ← hn, ← hm, ← htl, ← htm] at hV
  rw [← hcu, ← hcv] at e4
  rw [← hn, ← hm] at e3
  obtain ⟨cz, hcz⟩ : ∃ cz, cz = strP z.cust := ⟨_, rfl⟩
  rw [← hcz] at hV e4
  have hn32 := gx.num
  have hm32 := gy.num
  rw [← hn] at hn32
  rw [← hm] at hm32
  have hPS : ∀ z ∈ x.parts, PartFit z ∧ (strP z).size ≤ 200000 := fun z hz => ⟨hx.parts z hz, by have := stringP_size z.kind z.text; have := (gx.parts z hz).2; unfold strP; omega⟩
  have hQS : ∀ z ∈ y.parts, PartFit z ∧ (strP z).size ≤ 200000 := fun z hz => ⟨hy.parts z hz, by have := stringP_size z.kind z.text; have := (gy.parts z hz).2; unfold strP; omega⟩
  have hcus : cu.size ≤ 200000 := by rw [hcu]; have := stringP_size x.cust.kind x.cust.text; have := gx.text; unfold strP; omega
  have hcvs : cv.size ≤ 200000 := by rw [hcv]; have := stringP_size y.cust.kind y.cust.text; have := gy.text; unfold strP; omega
  have hws : ∀ k, (wAt x y k).size ≤ 200000 := fun k => by
    unfold wAt
    have h1 : ∀ a, x.parts[k]? = some a → (strP a).size ≤ 200000 := fun a ha => (hPS a (List.mem_of_getElem? ha)).2
    have h2 : ∀ a, y.parts[k]? = some a → (strP a).size ≤ 200000 := fun a ha => (hQS a (List.mem_of_getElem? ha)).2
    cases ha : x.parts[k]? with
    | none =>
      cases hb : y.parts[k]? with
      | none => exact (by decide : (1 : Nat) ≤ 200000)
      | some b =>
        dsimp only
        split
        · exact h2 b hb
        · exact (by decide : (1 : Nat) ≤ 200000)
    | some a =>
      cases hb : y.parts[k]? with
      | none => exact h1 a ha
      | some b =>
        dsimp only
        split
        · exact h2 b hb
        · exact h1 a ha
  have hzl : (strL z.parts).length = max n m := by rw [strL_len, e2, hn, hm]
  have hzs : ∀ s ∈ strL z.parts, s.size ≤ 200000 := fun s hs => by
    obtain ⟨k, hk, rfl⟩ := List.getElem_of_mem hs
    have h5 := e3 k (by omega)
    rw [List.getElem?_eq_getElem hk] at h5
    injection h5 with h5
    rw [h5]; exact hws k
  have hbd : ∀ k, (toB (pathK cz (strL z.parts) k)).size ≤ 40000000 := fun k => by
    have := pathK_bd cz (strL z.parts) k 200000 hzs (by omega)
    have : cz.size ≤ 200000 := by rw [e4]; split <;> assumption
    omega
  have hc0 : toB (pathK cz (strL z.parts) 0) = cz := by simp [pathK, pathL, toB]
  have hadd : ∀ k, k < max n m → toB (pathK cz (strL z.parts) k) ++ ⟨#[47]⟩ ++ wAt x y k = toB (pathK cz (strL z.parts) (k + 1)) := fun k hk => pathK_add _ _ _ _ (e3 k hk)
  have HPS := Lib.hid hPS
  have HQS := Lib.hid hQS
  have HN := Lib.hid hn
  have HM := Lib.hid hm
  have HV := Lib.hid hV
  have HADD := Lib.hid hadd
  have HBD := Lib.hid hbd
  have HC0 := Lib.hid hc0
  have HE4 := Lib.hid e4
  have HWS := Lib.hid hws
  clear hV hcu hcv hn hm htl htm hPS hQS hx hy gx gy e1 e2 e3 e4 hcz hws hzl hzs hbd hc0 hadd hxy
  generalize strL z.parts = zs at *
  have hEND : (cu.toList == [42]) = true ∧ cu.toList = [42] ∧ cz = cv ∨ (cu.toList == [42]) = false ∧ ¬ cu.toList = [42] ∧ cz = cu := by
    cases h : (cu.toList == [42])
    · exact .inr ⟨rfl, by simpa using h, by rw [HE4.out, if_neg (by rw [h]; decide)]⟩
    · exact .inl ⟨rfl, by simpa using h, by rw [HE4.out, if_pos h]⟩
  rcases hEND with ⟨t1, t1', hz⟩ | ⟨t1, t1', hz⟩
  all_goals
    go_enter Tryz.func104, Tryz.ntmps104
    go_wp2_with (first | (go_at_call 137; refine (HMT.out _).mono ?_; rintro e w1 ⟨rfl, hb1⟩; have hJ1 : JBox w1 w.heap.size ⟨#[]⟩ false 0 := Blk.keep (World.alloc_heap_new _ _) hb1; obtain ⟨j0, j1, j2, f0, f1, f2⟩ := hJ1.facts; have hz1 : w.heap.size < w1.heap.size := Blk.lt hJ1) | (go_at_call 105; refine (HC1.out _).mono ?_; rintro e w2 ⟨hb2, A, c, rfl, hR⟩; have HR := Lib.hid hR; clear hR; have hJ2 : JBox w2 w.heap.size ⟨#[]⟩ false 0 := Blk.keep hJ1 (blater _ hb2); clear HC1) | (go_at_call 105; refine (HC2.out _).mono ?_; rintro e w3 ⟨hb3, B, c2, rfl, hR2⟩; have HR2 := Lib.hid hR2; clear hR2; have hJ3 : JBox w3 w.heap.size ⟨#[]⟩ false 0 := Blk.keep hJ2 (blater _ hb3); have hX3 : PatBox w3 w2.heap.size cu (.slice A n c) tl := (hb3.block w2.heap.size (by simp)).trans (World.alloc_heap_new _ _); clear j0 j1 j2 f0 f1 f2; obtain ⟨x0, x1, x2, _⟩ := hX3.facts; have hz3 : w2.heap.size < w3.heap.size := Blk.lt hX3; have hz33 : w.heap.size < w3.heap.size := Blk.lt hJ3))
  all_goals
    clear x0 x1 x2 t1 t1'
    go_loopw [10, 11] (fun vo vi wr => ∃ k : Nat, vi = .int .i64 k ∧ k ≤ max n m ∧ vo = .string (toB (pathK cz zs k)) ∧ JBox wr w.heap.size ⟨#[]⟩ false 0 ∧ PatBox wr w2.heap.size cu (.slice A n c) tl ∧ PatBox wr w3.heap.size cv (.slice B m c2) tm ∧ Below w.heap.size w wr ∧ Below w2.heap.size w2 wr ∧ Below w3.heap.size w3 wr) (fun _ vi _ => max n m - (intOf vi).toNat)
    case atStart => exact ⟨0, rfl, Nat.zero_le _, by rw [HC0.out, hz], (Below.heap_alloc _ _ _ hz33).trans hJ3, (Below.heap_alloc _ _ _ hz3).trans hX3, World.alloc_heap_new _ _, by (repeat (first | exact .refl _ _ | assumption | refine .drew ?_ | refine balloc ?_ _ | refine bdrewN ?_ _ | refine .setCell ?_ (by simp <;> omega) _ | refine bstep ?_ (by assumption))), balloc (blater _ hb3) _, balloc (Below.refl _ _) _⟩
    case round =>
      clear hJ3 hX3
      obtain ⟨k, rfl, hk, rfl, hJ, hX, hY, hbr, hbr2, hbr3⟩ := hrel
      obtain ⟨x0, x1, x2, _⟩ := hX.facts
      obtain ⟨y0, y1, y2, _⟩ := hY.facts
      by_cases hlt : k < max n m
      · have hs := HBD.out k
        have hA := HADD.out k hlt
        have hw := HWS.out k
        unfold wAt at hA hw
        have hmx : (max (n : Int) (m : Int)) = ((max n m : Nat) : Int) := by omega
        by_cases hkn : k < n
        · have dn : decide ((k : Int) < (n : Int)) = true := decide_eq_true (by omega)
          obtain ⟨a, ha⟩ : ∃ a, x.parts[k]? = some a := ⟨_, List.getElem?_eq_getElem (by have := HN.out; omega)⟩
          obtain ⟨b, o, rfl, hcell⟩ := (HR.out.keep hbr2).2 (by omega)
          have hc1 : wr.cell? ⟨b, o + k, none⟩ = some (.string (strP a)) := hcell k _ (by rw [List.getElem?_map, strL_at _ _ _ ha]; rfl)
          rw [ha] at hA hw
          obtain ⟨haf, has⟩ := HPS.out a (List.mem_of_getElem? ha)
          clear hcell ha haf
          by_cases hkm : k < m
          · have dm : decide ((k : Int) < (m : Int)) = true := decide_eq_true (by omega)
            obtain ⟨z', hz'⟩ : ∃ z', y.parts[k]? = some z' := ⟨_, List.getElem?_eq_getElem (by have := HM.out; omega)⟩
            obtain ⟨b2, o2, rfl, hcell2⟩ := (HR2.out.keep hbr3).2 (by omega)
            have hc2 : wr.cell? ⟨b2, o2 + k, none⟩ = some (.string (strP z')) := hcell2 k _ (by rw [List.getElem?_map, strL_at _ _ _ hz']; rfl)
            rw [hz'] at hA hw
            obtain ⟨hzf, hzs⟩ := HQS.out z' (List.mem_of_getElem? hz')
            dsimp only at hA hw
            have cM := fun W => rCovers_any (strP a) (strP z') W (by omega) (by omega)
            clear hcell2 hz' hzf
            generalize strP a = sa at *
            generalize strP z' = sz at *
            generalize covB sa sz = cv' at *
            generalize toB (pathK cz zs k) = S at *
            have HCV := Lib.hid cM
            have HA := Lib.hid hA
            clear cM hA
            have n1 : ¬ 9223372036854775807 < S.size + 1 := by omega
            have n2 : ¬ 9223372036854775807 < S.size + 1 + sa.size := by omega
            have n3 : ¬ 9223372036854775807 < S.size + 1 + sz.size := by omega
            cases cv'
            · go_wp2_with (go_at_call 106; refine (HCV.out _).mono ?_; rintro e w9 ⟨rfl, hb9⟩; have hJ9 : JBox w9 w.heap.size ⟨#[]⟩ false 0 := Blk.keep hJ hb9; have hX9 : PatBox w9 w2.heap.size cu _ tl := Blk.keep hX hb9; have hY9 : PatBox w9 w3.heap.size cv _ tm := Blk.keep hY hb9; obtain ⟨v0, v1, v2, _⟩ := hX9.facts; obtain ⟨u0, u1, u2, _⟩ := hY9.facts; have hc3 := cell_keep hb9 hc2)
              exact ⟨⟨k + 1, by go_num, by omega, congrArg Value.string HA.out, hJ9, hX9, hY9, bstep hbr hb9, bstep hbr2 hb9, bstep hbr3 hb9⟩, by simp [intOf]; omega⟩
            · go_wp2_with (go_at_call 106; refine (HCV.out _).mono ?_; rintro e w9 ⟨rfl, hb9⟩; have hJ9 : JBox w9 w.heap.size ⟨#[]⟩ false 0 := Blk.keep hJ hb9; have hX9 : PatBox w9 w2.heap.size cu _ tl := Blk.keep hX hb9; have hY9 : PatBox w9 w3.heap.size cv _ tm := Blk.keep hY hb9; obtain ⟨v0, v1, v2, _⟩ := hX9.facts; obtain ⟨u0, u1, u2, _⟩ := hY9.facts; have hc3 := cell_keep hb9 hc2)
              exact ⟨⟨k + 1, by go_num, by omega, congrArg Value.string HA.out, hJ9, hX9, hY9, bstep hbr hb9, bstep hbr2 hb9, bstep hbr3 hb9⟩, by simp [intOf]; omega⟩
          · have dm : decide ((k : Int) < (m : Int)) = false := decide_eq_false (by omega)
            have hb : y.parts[k]? = none := List.getElem?_eq_none (by have := HM.out; omega)
            rw [hb] at hA hw
            dsimp only at hA hw
            clear hb
            generalize strP a = sa at *
            generalize toB (pathK cz zs k) = S at *
            have HA := Lib.hid hA
            clear hA
            have n1 : ¬ 9223372036854775807 < S.size + 1 := by omega
            have n2 : ¬ 9223372036854775807 < S.size + 1 + sa.size := by omega
            go_wp2
            exact ⟨⟨k + 1, by go_num, by omega, congrArg Value.string HA.out, hJ, hX, hY, hbr, hbr2, hbr3⟩, by simp [intOf]; omega⟩
        · have dn : decide ((k : Int) < (n : Int)) = false := decide_eq_false (by omega)
          have hkm : k < m := by omega
          have dm : decide ((k : Int) < (m : Int)) = true := decide_eq_true (by omega)
          have ha : x.parts[k]? = none := List.getElem?_eq_none (by have := HN.out; omega)
          rw [ha] at hA hw
          obtain ⟨z', hz'⟩ : ∃ z', y.parts[k]? = some z' := ⟨_, List.getElem?_eq_getElem (by have := HM.out; omega)⟩
          obtain ⟨b2, o2, rfl, hcell2⟩ := (HR2.out.keep hbr3).2 (by omega)
          have hc2 : wr.cell? ⟨b2, o2 + k, none⟩ = some (.string (strP z')) := hcell2 k _ (by rw [List.getElem?_map, strL_at _ _ _ hz']; rfl)
          rw [hz'] at hA hw
          obtain ⟨hzf, hzs⟩ := HQS.out z' (List.mem_of_getElem? hz')
          dsimp only at hA hw
          have cM := fun W => rCovers_any ⟨#[42]⟩ (strP z') W (by decide) (by omega)
          clear hcell2 hz' hzf ha
          generalize strP z' = sz at *
          generalize covB ⟨#[42]⟩ sz = cv' at *
          generalize toB (pathK cz zs k) = S at *
          have HCV := Lib.hid cM
          have HA := Lib.hid hA
          clear cM hA
          have n1 : ¬ 9223372036854775807 < S.size + 1 := by omega
          have n2 : ¬ 9223372036854775807 < S.size + 1 + 1 := by omega
          have n3 : ¬ 9223372036854775807 < S.size + 1 + sz.size := by omega
          cases cv'
          · go_wp2_with (go_at_call 106; refine (HCV.out _).mono ?_; rintro e w9 ⟨rfl, hb9⟩; have hJ9 : JBox w9 w.heap.size ⟨#[]⟩ false 0 := Blk.keep hJ hb9; have hX9 : PatBox w9 w2.heap.size cu _ tl := Blk.keep hX hb9; have hY9 : PatBox w9 w3.heap.size cv _ tm := Blk.keep hY hb9; obtain ⟨v0, v1, v2, _⟩ := hX9.facts; obtain ⟨u0, u1, u2, _⟩ := hY9.facts; have hc3 := cell_keep hb9 hc2)
            exact ⟨⟨k + 1, by go_num, by omega, congrArg Value.string HA.out, hJ9, hX9, hY9, bstep hbr hb9, bstep hbr2 hb9, bstep hbr3 hb9⟩, by simp [intOf]; omega⟩
          · go_wp2_with (go_at_call 106; refine (HCV.out _).mono ?_; rintro e w9 ⟨rfl, hb9⟩; have hJ9 : JBox w9 w.heap.size ⟨#[]⟩ false 0 := Blk.keep hJ hb9; have hX9 : PatBox w9 w2.heap.size cu _ tl := Blk.keep hX hb9; have hY9 : PatBox w9 w3.heap.size cv _ tm := Blk.keep hY hb9; obtain ⟨v0, v1, v2, _⟩ := hX9.facts; obtain ⟨u0, u1, u2, _⟩ := hY9.facts; have hc3 := cell_keep hb9 hc2)
            exact ⟨⟨k + 1, by go_num, by omega, congrArg Value.string HA.out, hJ9, hX9, hY9, bstep hbr hb9, bstep hbr2 hb9, bstep hbr3 hb9⟩, by simp [intOf]; omega⟩
      · obtain rfl : k = max n m := by omega
        have hs := HBD.out (max n m)
        have hV := HV.out
        have hmx : (max (n : Int) (m : Int)) = ((max n m : Nat) : Int) := by omega
        have hmm : ¬ ((max n m : Nat) : Int) < (n : Int) ∧ ¬ ((max n m : Nat) : Int) < (m : Int) := by omega
        obtain ⟨j0, j1, j2, f0, f1, f2⟩ := hJ.facts
        have hz9 : w.heap.size < wr.heap.size := Blk.lt hJ
        generalize toB (pathK cz zs (max n m)) = S at *
        have n1 : ¬ 9223372036854775807 < S.size + 3 := by omega
        cases tl
        · simp only [Bool.false_and, Bool.false_eq_true, if_false] at hV
          subst hV
          go_wp2
          exact bodyPost_ret (v := .agg #[.string V, .bool true, .int .i64 0]) (by simp [results, Tryz.results104, go_sem, hz9, j0, j1, j2, f0, f1, f2]) rfl ⟨rfl, by (repeat (first | exact .refl _ _ | assumption | refine .drew ?_ | refine balloc ?_ _ | refine bdrewN ?_ _ | refine .setCell ?_ (by simp <;> omega) _ | refine bstep ?_ (by assumption)))⟩
        · cases tm
          · simp only [Bool.and_false, Bool.false_eq_true, if_false] at hV
            subst hV
            go_wp2
            exact bodyPost_ret (v := .agg #[.string V, .bool true, .int .i64 0]) (by simp [results, Tryz.results104, go_sem, hz9, j0, j1, j2, f0, f1, f2]) rfl ⟨rfl, by (repeat (first | exact .refl _ _ | assumption | refine .drew ?_ | refine balloc ?_ _ | refine bdrewN ?_ _ | refine .setCell ?_ (by simp <;> omega) _ | refine bstep ?_ (by assumption)))⟩
          · simp only [Bool.and_self, if_true] at hV
            subst hV
            go_wp2
            exact bodyPost_ret (v := .agg #[.string (S ++ ⟨#[47, 42, 42]⟩), .bool true, .int .i64 0]) (by simp [results, Tryz.results104, go_sem, hz9, j0, j1, j2, f0, f1, f2]) rfl ⟨rfl, by (repeat (first | exact .refl _ _ | assumption | refine .drew ?_ | refine balloc ?_ _ | refine bdrewN ?_ _ | refine .setCell ?_ (by simp <;> omega) _ | refine bstep ?_ (by assumption)))⟩
theorem rBoth2_any (p q : ByteArray) (w : World) (hp : p.size ≤ 100000) (hq : q.size ≤ 100000) : Calls Tryz.prog 104 #[.string p, .string q] w (Ret w (.agg #[.string (bothR (bothP p q)).1, .bool (bothR (bothP p q)).2.1, .int .i64 (bothR (bothP p q)).2.2])) := by
  have cM := fun W => rMeet2_any p q W hp hq
  unfold meetR at cM
  unfold bothP
  cases hx : compileB p with
  | none =>
    rw [hx] at cM
    exact rBoth0 p q w 1 (.inr rfl) (Lib.hid cM)
  | some x =>
    cases hy : compileB q with
    | none =>
      rw [hx, hy] at cM
      exact rBoth0 p q w 1 (.inr rfl) (Lib.hid cM)
    | some y =>
      rw [hx, hy] at cM
      have cM2 : ∀ W, Calls Tryz.prog 137 #[.string p, .string q] W (Ret W (.agg #[.bool (commonP x y).isSome, .int .i64 0])) := cM
      show Calls Tryz.prog 104 #[.string p, .string q] w (Ret w (.agg #[.string (bothR (some (commonP x y))).1, .bool (bothR (some (commonP x y))).2.1, .int .i64 (bothR (some (commonP x y))).2.2]))
      cases hz : commonP x y with
      | none =>
        rw [hz] at cM2
        exact rBoth0 p q w 0 (.inl rfl) (Lib.hid cM2)
      | some z =>
        rw [hz] at cM2
        exact rBoth1 p q x y z w (compile_fit hx) (compile_fit hy) (compile_good p hp x hx) (compile_good q hq y hy) hz _ _ _ _ _ _ rfl rfl rfl rfl rfl rfl (Lib.hid cM2) (Lib.hid (compAs hp hx)) (Lib.hid (compAs hq hy))
end Go.Proofs.YtocgkpdolgnbgaaGreatDoor
