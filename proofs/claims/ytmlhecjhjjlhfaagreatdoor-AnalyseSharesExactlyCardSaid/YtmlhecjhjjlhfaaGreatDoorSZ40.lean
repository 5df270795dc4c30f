/- An address that a pattern matches, made of words that no other pattern names: analyse.example. -/
import Derived.Test.YtmlhecjhjjlhfaaGreatDoorSZ38
import Derived.Test.YtmlhecjhjjlhfaaGreatDoorSZ37
import Derived.Test.YtmlhecjhjjlhfaaGreatDoorSZ4
import Derived.Test.YtmlhecjhjjlhfaaGreatDoorSZ33
import Derived.Test.YtmlhecjhjjlhfaaGreatDoorSZ7
import Derived.Deep.DeepCutAuto
import Derived.Test.YtmlhecjhjjlhfaaGreatDoorProg
import Derived.WalkKit
import Derived.WalkSpells
import Derived.WalkLawsBesides
import Derived.Below
import Derived.Deep.QuietTactic
import Derived.BigQuiet
import Derived.Lib.QuietBelow
import Derived.Lib.Strings
import Derived.Lib.Hide
import Derived.Deep.RegionWith
import Derived.Deep.RegionHeld3
import Derived.Lib.IndexBytes
namespace Go.Proofs.YtmlhecjhjjlhfaaGreatDoor
open Go.RowKit Go.Sort
set_option linter.unusedVariables false
set_option linter.unusedSimpArgs false
set_option maxRecDepth 100000
open Go.Maps
theorem but_grown {w w' : World} {g : Nat} (h : But g w w') : w.grownBy w' (some g) := ⟨h.os, h.tape, h.output, h.size, fun k hk hn => h.block k hk (fun e => hn (by rw [e]))⟩
theorem own_but {w w' : World} {g b base t cap : Nat} {e : TypeId} {xs : List Value} (h : w.ownsRow base e 1 (.slice (some ⟨b, 0, none⟩) t cap) t xs) (hb : But g w w') (hn : b ≠ g) : w'.ownsRow base e 1 (.slice (some ⟨b, 0, none⟩) t cap) t xs :=
  h.kept (but_grown hb) (.inr (fun e => hn (Option.some.inj e)))
theorem cust_star {p : Part} (hp : CustFit p) : ((stringP p.kind p.text).toList == [42]) = decide (p.kind ≠ 0) := by
  rw [Lib.toList_data]
  rcases hp with ⟨hk, hw⟩ | ⟨hk, ht⟩
  · rw [decide_eq_false (by omega)]
    have e : stringP p.kind p.text = p.text := by unfold stringP; rw [if_pos hk]
    rw [e, beq_eq_false_iff_ne]
    intro h
    exact (word_no (name_word hw)).2.2.2.2.1 (by rw [h]; simp)
  · rw [decide_eq_true (by omega), str_data, if_neg (by omega), ht]
    rfl
def lenV : Value → Nat | .slice _ n _ => n | _ => 0
def rowW (x : Pat) (cu : ByteArray) (t : Nat) : List ByteArray := cu :: strL x.parts ++ List.replicate (t - (x.parts.length + 1)) starS
theorem rowW_zero (x : Pat) (cu : ByteArray) : rowW x cu (x.parts.length + 1) = cu :: strL x.parts := by simp [rowW]
theorem rowW_succ (x : Pat) (cu : ByteArray) (t : Nat) (h : x.parts.length + 1 ≤ t) : rowW x cu (t + 1) = rowW x cu t ++ [starS] := by
  unfold rowW
  rw [show t + 1 - (x.parts.length + 1) = t - (x.parts.length + 1) + 1 by omega, List.replicate_succ']
  simp
theorem rowW_full (x : Pat) (cu : ByteArray) (m : Nat) (h : x.parts.length ≤ m) : rowW x cu (m + 1) = cu :: strL (partsM x m) := by
  unfold rowW
  rw [partsM_str, show m + 1 - (x.parts.length + 1) = m - x.parts.length by omega]
  rfl
def rowI (x : Pat) (m : Nat) (cu : ByteArray) (ws : List ByteArray) (i : Nat) : List ByteArray := cu :: (ws ++ (strL (partsM x m)).drop i)
theorem made_word {named : List ByteArray} {p : Part} (h0 : p.kind = 0) : MadeAt named p (stringP p.kind p.text) := .inl ⟨h0, by unfold stringP; rw [if_pos h0]⟩
theorem made_fresh {bs : List ByteArray} {p : Part} {j : Nat} (hk : p.kind ≠ 0) (hj : j ≤ 1000000) (h : hasN (namedL bs).reverse (wE j p.text) = false) : MadeAt (namedL bs) p (wE j p.text) :=
  .inr ⟨hk, j, hj, rfl, fun hm => by
    have := (hasN_iff (namedL bs).reverse (wE j p.text)).2 (List.mem_reverse.2 hm)
    rw [h] at this
    cases this⟩
theorem infStrU : (Tryz.prog.info? 9).map (fun i => (i.zero, i.size, i.bytes)) = some (some (.string ⟨#[]⟩), 1, 16) := by kernel_rfl
theorem WordSt.low {gb gm gn N k B : Nat} {named : List ByteArray} {w w' : World} (h : WordSt gb gm gn N named k w) (hb : Below B w w') (h1 : gb < B) (h2 : gm < B) (h3 : gn < B) : WordSt gb gm gn N named k w' :=
  ⟨(hb.block gb h1).trans h.b, ownsMap_keep h.m hb h2, (hb.block gn h3).trans h.n, h.d1, h.d2⟩
theorem rowI_at {x : Pat} {m i : Nat} {cu : ByteArray} {ws : List ByteArray} {p : Part} (hl : ws.length = i) (hp : (partsM x m)[i]? = some p) : (rowI x m cu ws i)[i + 1]? = some (stringP p.kind p.text) := by
  unfold rowI
  rw [List.getElem?_cons_succ, List.getElem?_append_right (by omega), hl, Nat.sub_self, List.getElem?_drop, Nat.add_zero]
  simp [strL, hp]
theorem rowI_set {x : Pat} {m i : Nat} {cu s : ByteArray} {ws : List ByteArray} (hl : ws.length = i) (hi : i < (partsM x m).length) : (rowI x m cu ws i).set (i + 1) s = rowI x m cu (ws ++ [s]) (i + 1) := by
  unfold rowI
  have hd : (strL (partsM x m)).drop i = (strL (partsM x m))[i]'(by simpa [strL] using hi) :: (strL (partsM x m)).drop (i + 1) := List.drop_eq_getElem_cons _
  rw [List.set_cons_succ, List.set_append_right _ _ (by omega), hl, Nat.sub_self, hd, List.set_cons_zero]
  simp
theorem rowI_zero (x : Pat) (m : Nat) (cu : ByteArray) : rowI x m cu [] 0 = cu :: strL (partsM x m) := rfl
theorem rowI_end {x : Pat} {m : Nat} {cu : ByteArray} {ws : List ByteArray} (hm : x.parts.length ≤ m) : rowI x m cu ws m = cu :: ws := by
  unfold rowI
  rw [List.drop_of_length_le (by simp [strL, partsM_len x m hm])]
  simp
def ExI (bs : List ByteArray) (x : Pat) (m : Nat) (cu : ByteArray) (gb gm gn N g cap B : Nat) (w : World) (i : Nat) (wr : World) : Prop :=
  ∃ ws k, Made (namedL bs) ((partsM x m).take i) ws ∧ k ≤ (i + 1) * 6021 ∧ WordSt gb gm gn N (namedL bs).reverse k wr ∧ wr.ownsRow B 9 1 (.slice (some ⟨g, 0, none⟩) (m + 1) cap) (m + 1) ((rowI x m cu ws i).map .string) ∧ Below w.heap.size w wr ∧ B < wr.heap.size
def InI (bs : List ByteArray) (p : Part) (gb gm gn N a : Nat) (wo : World) (s : ByteArray) (wr : World) : Prop :=
  ∃ k, a ≤ k ∧ k ≤ a + 6021 ∧ WordSt gb gm gn N (namedL bs).reverse k wr ∧ But gn wo wr ∧ ((s = stringP p.kind p.text ∧ p.kind ≠ 0 ∧ k ≤ a + 6020 ∧ ∀ j, a ≤ j → j < k → wN j ∈ (namedL bs).reverse ∨ wE j p.text ∈ (namedL bs).reverse) ∨ (MadeAt (namedL bs) p s ∧ Lib.hasPrefix s.data.toList [42] = false))
theorem wE_plain {p : Part} (hp : PartFit p) (j : Nat) : Lib.hasPrefix (wE j p.text).data.toList [42] = false := by
  rw [wE_data]
  unfold wL
  rfl
theorem But.put {g b o : Nat} {w w' : World} {v : Value} (h : But g w w') (hb : w.heap.size ≤ b) : But g w (w'.setCell ⟨b, o, none⟩ v) :=
  ⟨h.os, h.tape, h.output, by have := h.size; simpa [World.setCell] using this, fun k hk hn => (Below.heap_setCell _ _ _ _ (by show k ≠ b; omega)).trans (h.block k hk hn)⟩
def D24 (gb gn : Nat) (r : Nat) (p : Part) (wz : World) (j : Nat) (v : Value) (w : World) : Prop :=
  match j with
  | 0 => v = .func (.func 187) #[] #[.pointer (some ⟨gn, 0, none⟩), .pointer (some ⟨gb, 0, none⟩)]
  | 1 => v = .string (wN r)
  | 2 => v = .string (stringP p.kind p.text)
  | 3 => v = .string p.text
  | 4 => v = .string (wE r p.text)
  | 5 => ∃ b, v = .pointer (some ⟨b, 0, none⟩) ∧ wz.heap.size ≤ b ∧ Blk w b 9 #[.string ⟨#[]⟩] (0, 0)
  | _ => True
theorem D24.keep {gb gn r : Nat} {p : Part} {wz : World} (hg : gn < wz.heap.size) (j : Nat) (v : Value) (w w' : World) (h : D24 gb gn r p wz j v w) (hb : But gn w w') : D24 gb gn r p wz j v w' := by
  unfold D24 at h ⊢
  split at h
  · exact h
  · exact h
  · exact h
  · exact h
  · exact h
  · obtain ⟨b, e, h1, h2⟩ := h
    exact ⟨b, e, h1, hb.blk h2 (by omega)⟩
  · trivial
def J24 (gb gm gn N k r : Nat) (nm : List ByteArray) (wz : World) (L : Nat → Bool) (w : World) : Prop := WordSt gb gm gn N nm (bif L 1 then r + 1 else k) w ∧ But gn wz w
set_option maxHeartbeats 8000000 in
theorem exampl_any (p : ByteArray) (x : Pat) (m : Nat) (A : Option Addr) (n c : Nat) (bs : List ByteArray) (w : World) (hx : compileB p = some x) (hp : p.size ≤ 100000) (hm : x.parts.length ≤ m) (h32 : m ≤ 32)
    (hR : Reads w 1 A n (bs.map .string)) (hn : n ≤ 10) (hs : ∀ b ∈ bs, b.size ≤ 300) (hE : Env w) (hT : Tab w) :
    Calls Tryz.prog 79 #[.string p, .int .i64 (m : Int), .slice A n c] w fun e w' => ∃ cu ws, e = .returned (.string (joinS (cu :: ws))) ∧ MadeAt (namedL bs) x.cust cu ∧ Made (namedL bs) (partsM x m) ws ∧ Below w.heap.size w w' := by
  have hfit := compile_fit hx
  have hbl : bs.length = n := by have := hR.1; simpa using this
  have hnum : (namedL bs).reverse.length ≤ 3010 := by
    rw [List.length_reverse]
    have h1 := namedL_num 300 bs hs
    have h2 := Nat.mul_le_mul_right (300 + 1) (show bs.length ≤ 10 by omega)
    omega
  have cU := unnamed_any A n c bs w hR (by omega) (fun b hb => by have := hs b hb; omega) hE
  have cT := fun W => Tryz.strings_TrimSuffix p ⟨#[47, 42, 42]⟩ W (by omega)
  have htr := fix_trim hx
  have hfs : (fixS x).size ≤ 100000 := by
    rw [← htr, size_data]
    have := Lib.trimSuffix_le p.data.toList [47, 42, 42]
    rw [← Lib.size_eq] at this
    simp only
    omega
  have cS := fun W (hb : Below w.heap.size w W) => splitOwn_any (fixS x) 47 W (by omega) (Env.keep hE hb)
  rw [fix_split hfit, fix_len] at cS
  have cN := fun (y : ByteArray) (b : Nat) (W : World) (hb : Below w.heap.size w W) (hc : W.cell? ⟨b, 0, none⟩ = some (.string y)) => anyNamed_any A n c bs y b W (hR.keep hb) (by omega) (fun q hq => by have := hs q hq; omega) hc (Env.keep hE hb)
  have HU := Lib.hid cU; have HTR := Lib.hid cT; have HTE := Lib.hid htr; have HSP := Lib.hid cS; have HNA := Lib.hid cN; have HT := Lib.hid hT; have HX := Lib.hid hfit; have HNUM := Lib.hid hnum
  clear cU cT htr cS cN hT hfit hnum hE hs hR hfs hx hbl
  have hmf : ∀ (fn : Fn) (first cap : Array Value) (w : World), (Instr.makeFunc fn first cap).run Tryz.prog w = .ok (.func fn first cap) w := fun _ _ _ _ => rfl
  go_enter Tryz.func79, Tryz.ntmps79
  go_upto_region 3 with (first | (go_at_call 140; refine HU.out.mono ?_; rintro e w1 ⟨gb, gm, gn, N, rfl, hW1, hg1, hb1⟩; have HW1 := Lib.hid hW1; clear hW1) | (go_at_call 125; refine (HTR.out _).mono ?_; rintro e wt ⟨rfl, hwt⟩; rw [hwt]; clear hwt wt) | (go_at_call 63; rw [HTE.out]; refine (HSP.out _ hb1).mono ?_; rintro e w2 ⟨rfl, hown2, hb2⟩))
  have hc0 : w2.cell? ⟨w1.heap.size, 0, none⟩ = some (.string (stringP x.cust.kind x.cust.text)) := by
    rw [hown2.cellAt 0 (by omega)]; rfl
  have hst := cust_star HX.out.cust
  obtain ⟨b0, hb0⟩ : ∃ b0, b0 = decide (x.cust.kind ≠ 0) := ⟨_, rfl⟩
  rw [← hb0] at hst
  have HB0 := Lib.hid hb0; have HOW := Lib.hid hown2
  have hbb := HW1.out.b.lt
  have hbm := HW1.out.m.lt
  have hbn := HW1.out.n.lt
  clear hown2 hb0
  go_upto_if 20 with fail
  clear hc0
  go_cut [] (fun wx => ∃ (cu : ByteArray) (k : Nat), MadeAt (namedL bs) x.cust cu ∧ k ≤ 6021 ∧ Hid (WordSt gb gm gn N (namedL bs).reverse k wx) ∧ Hid (wx.ownsRow w1.heap.size 9 1 (.slice (some ⟨w1.heap.size, 0, none⟩) (x.parts.length + 1) (x.parts.length + 1)) (x.parts.length + 1) ((cu :: strL x.parts).map .string)) ∧ Below w.heap.size w wx ∧ w1.heap.size < wx.heap.size)
  case first =>
    have hs2 := hb2.size
    have hlt2 : w1.heap.size < w2.heap.size := (HOW.out.lt _ rfl).2
    cases b0
    · have hk0 : x.cust.kind = 0 := by have := HB0.out; simpa using this.symm
      go_wp2_with fail
      go_meet
      exact ⟨stringP x.cust.kind x.cust.text, 0, made_word hk0, by omega, Lib.hid (HW1.out.keep hb2), HOW, bstep hb1 hb2, hlt2⟩
    · have hk0 : x.cust.kind ≠ 0 := by have := HB0.out; simpa using this.symm
      have htx : x.cust.text = ⟨#[]⟩ := by
        rcases HX.out.cust with ⟨h, _⟩ | ⟨_, h⟩
        · exact absurd h hk0
        · exact h
      have cW := word_any gb gm gn N 0 (namedL bs).reverse w2 (HW1.out.keep hb2) (by omega) (by have := HNUM.out; omega) (fun W h => HT.out.keep ((bstep hb1 hb2).trans (h.below (by omega) (by have := hb1.size; omega))))
      have hnl := next_le (namedL bs).reverse 0
      have hns := next_stop (namedL bs).reverse 0
      have hnn := HNUM.out
      obtain ⟨r, hr⟩ : ∃ r, r = nextN (namedL bs).reverse 0 := ⟨_, rfl⟩
      rw [← hr] at cW hnl hns
      have HWD := Lib.hid cW; have HNS := Lib.hid hns
      clear cW hns hr
      go_wp2_with (go_at_call 187; refine HWD.out.mono ?_; rintro e w3 ⟨rfl, hW3, hbu3⟩; have hown3 := own_but HOW.out hbu3 (by omega); have y3 : w3.cell? ⟨w1.heap.size, 0, none⟩ = some (.string (stringP x.cust.kind x.cust.text)) := (by rw [hown3.cellAt 0 (by omega)]; rfl); have z3 := hown3.frozenAt 0)
      go_meet
      have hbu4 := But.set w3 w1.heap.size 0 (.string (wN r))
      refine ⟨wN r, r + 1, ?_, by omega, Lib.hid (hW3.but hbu4 (by omega) (by omega) (by omega)), Lib.hid (hown3.stored 0 _).1, ((bstep hb1 hb2).trans (hbu3.below (by omega) (by omega))).trans (hbu4.below (by omega) (by have := hbu3.size; omega)), ?_⟩
      · have := made_fresh (bs := bs) (p := x.cust) (j := r) hk0 (by omega) (by rw [htx, wE_nil]; exact HNS.out)
        rwa [htx, wE_nil] at this
      · have := hbu3.size
        simp [World.setCell]; omega
  case rest =>
    obtain ⟨cu, k0, hcu, hk0, HWS, HRW, hbx, hlx⟩ := hcut
    have hg3 : gb < w1.heap.size ∧ gm < w1.heap.size ∧ gn < w1.heap.size := ⟨hbb, hbm, hbn⟩
    clear hst HB0 HOW hb2 HTR HSP HTE HU HW1 w2
    obtain ⟨i0, hi0, hz0, hz1, hz2⟩ := info_parts infStrU
    have HI := Lib.hid (And.intro hi0 (And.intro hz0 (And.intro hz1 hz2)))
    clear hi0 hz0 hz1 hz2
    have hrow : Hid (wc.ownsRow w1.heap.size 9 1 (.slice (some ⟨w1.heap.size, 0, none⟩) (x.parts.length + 1) (x.parts.length + 1)) (x.parts.length + 1) ((rowW x cu (x.parts.length + 1)).map .string)) := by rw [rowW_zero]; exact HRW
    clear HRW
    go_wp2_with fail
    go_loopw [8] (fun v wr => ∃ t g cap : Nat, v = .slice (some ⟨g, 0, none⟩) t cap ∧ x.parts.length + 1 ≤ t ∧ t ≤ m + 1 ∧ Hid (WordSt gb gm gn N (namedL bs).reverse k0 wr) ∧ Hid (wr.ownsRow w1.heap.size 9 1 (.slice (some ⟨g, 0, none⟩) t cap) t ((rowW x cu t).map .string)) ∧ Below w.heap.size w wr ∧ w1.heap.size < wr.heap.size) (fun v _ => m + 1 - lenV v)
    case atStart => exact ⟨x.parts.length + 1, _, _, rfl, by omega, by omega, HWS, hrow, hbx, hlx⟩
    case round =>
      obtain ⟨t, g, cap, rfl, ht1, ht2, HS, HR, hb, hl⟩ := hrel
      clear HWS hrow hbx hlx
      by_cases htm : t ≤ m
      · have hle : decide ((t : Int) ≤ (m : Int)) = true := decide_eq_true (by omega)
        have hb8 := HR.out
        go_wp2_with (at_builtin; refine wpList_append_own _ rfl _ _ 32 rfl w1.heap.size 9 i0 (.string ⟨#[]⟩) 1 16 Tryz.underlying32 HI.out.1 HI.out.2.1 HI.out.2.2.1 HI.out.2.2.2 rfl (by decide) _ _ _ rfl (HR.out.alloc _) ⟨wr.heap.size, 0, none⟩ 1 1 [.string starS] rfl rfl (cell_one_new _ _ _) (by simp [Value.oneCell']) (by unfold maxLen; omega) (by omega) (by simp; omega) ?_; intro v' w3 hown' hgrow _; obtain ⟨g', cap', rfl⟩ := ownsRow_succ hown')
        have hb3 : Below w1.heap.size wr w3 := ((Below.refl _ _).alloc (by omega) _).grown hgrow (by simp; omega) (fun r e => ownsRow_block HR.out r e)
        have hs3 := hb3.size
        exact ⟨⟨t + 1, g', cap', rfl, by omega, by omega, Lib.hid (HS.out.low hb3 hg3.1 hg3.2.1 hg3.2.2), Lib.hid (by rw [rowW_succ x cu t ht1, List.map_append]; exact hown'), hb.trans (hb3.mono hb1.size), by omega⟩, by simp [lenV]; omega⟩
      · obtain rfl : t = m + 1 := by omega
        have hle : ((m : Int) + 1 ≤ (m : Int)) = False := eq_false (by omega)
        have hle2 : decide ((m : Int) + 1 ≤ (m : Int)) = false := decide_eq_false (by omega)
        have hcap : m + 1 ≤ cap := by
          rcases HR.out.2 with ⟨h, _⟩ | ⟨g', cap', cur, h, _, _, h1, _⟩
          · cases h
          · injection h with _ _ h3
            omega
        have hgn : w1.heap.size ≤ g := (HR.out.lt g rfl).1
        have hinit : ExI bs x m cu gb gm gn N g cap w1.heap.size w 0 wr := ⟨[], k0, by rw [List.take_zero]; exact Made.nil _, by omega, HS.out, by rw [rowI_zero, ← rowW_full x cu m hm]; exact HR.out, hb, hl⟩
        have HIN := Lib.hid hinit
        clear hinit HS HR hb hl
        obtain ⟨wo, rfl⟩ : ∃ wo : World, wo = wr := ⟨_, rfl⟩
        go_upto_region 7 with fail
        clear hle hle2
        go_cut [33, 34, 35] (fun v33 v34 v35 wx => ∃ o cp : Nat, v33 = .slice (some ⟨g, o, none⟩) m cp ∧ (0 < m → o = 1) ∧ v34 = .int .i64 m ∧ v35 = .int .i64 0 ∧ wx = wo)
        case first =>
          have hm1 : (1 : Int) ≤ (m : Int) + 1 := by omega
          rcases Nat.lt_or_ge 1 cap with hc1 | hc1
          · have hc2 : (1 : Int) ≤ (cap : Int) := by omega
            go_wp2_with fail
            go_meet
            exact ⟨1, cap - 1, rfl, fun _ => rfl, rfl, rfl, rfl⟩
          · obtain rfl : cap = 1 := by omega
            obtain rfl : m = 0 := by omega
            go_wp2_with fail
            go_meet
            exact ⟨0, 0, rfl, fun h => by omega, rfl, rfl, rfl⟩
        case rest =>
          obtain ⟨o, cp, rfl, ho1, rfl, rfl, rfl⟩ := hcut
          go_wp2_with fail
          go_loopw [35] (fun iv wr => ∃ i : Nat, i ≤ m ∧ iv = .int .i64 i ∧ Hid (ExI bs x m cu gb gm gn N g cap w1.heap.size w i wr)) (fun iv _ => m - (intOf iv).toNat)
          case atStart => exact ⟨0, by omega, rfl, HIN⟩
          case round =>
            obtain ⟨i, hi, rfl, HX2⟩ := hrel
            clear HIN
            obtain ⟨ws, a, hmade, ha, hS, hown, hb, hl⟩ := HX2.out
            clear HX2
            have HMA := Lib.hid hmade; have HS := Lib.hid hS; have HOW := Lib.hid hown
            clear hmade hS hown
            by_cases hlt : i < m
            · obtain rfl : o = 1 := ho1 (by omega)
              clear ho1
              have hws := HMA.out.len
              rw [List.length_take, partsM_len x m hm, Nat.min_eq_left (by omega)] at hws
              obtain ⟨pp, hpp⟩ : ∃ pp, (partsM x m)[i]? = some pp := ⟨_, List.getElem?_eq_getElem (by rw [partsM_len x m hm]; exact hlt)⟩
              have hfp := partsM_fit HX.out m pp (List.mem_of_getElem? hpp)
              have hat : ∀ W : World, W.ownsRow w1.heap.size 9 1 (.slice (some ⟨g, 0, none⟩) (m + 1) cap) (m + 1) ((rowI x m cu ws i).map .string) → W.cell? ⟨g, i + 1, none⟩ = some (.string (stringP pp.kind pp.text)) := fun W h => by
                rw [h.cellAt (i + 1) (by omega), List.getElem?_map, rowI_at hws hpp]; rfl
              have hcS : wr.cell? ⟨g, 1 + i, none⟩ = some (.string (stringP pp.kind pp.text)) := by rw [Nat.add_comm]; exact hat wr HOW.out
              have HAT := Lib.hid hat; have HFP := Lib.hid hfp; have HPP := Lib.hid hpp; have HWL := Lib.hid hws
              clear hat hfp hpp hws
              have hi0 : (0 : Int) ≤ (i : Int) := by omega
              have hi1 : (i : Int) < (m : Int) := by omega
              obtain ⟨wq, rfl⟩ : ∃ wq : World, wq = wr := ⟨_, rfl⟩
              have hfirst : InI bs pp gb gm gn N a wq (stringP pp.kind pp.text) wq := ⟨a, Nat.le_refl _, by omega, HS.out, But.refl _ _, by
                by_cases hk : pp.kind = 0
                · exact .inr ⟨made_word hk, (str_plain HFP.out hk).1⟩
                · exact .inl ⟨rfl, hk, by omega, fun j h1 h2 => by omega⟩⟩
              have HF := Lib.hid hfirst
              clear hfirst
              go_wp2_with fail
              clear hcS hi0 hi1
              go_loopw [10] (fun v wr => ∃ s : ByteArray, v = .string s ∧ Hid (InI bs pp gb gm gn N a wq s wr)) (fun _ wr => a + 6022 - ctrN gn wr)
              case atStart => exact ⟨_, rfl, HF⟩
              case round =>
                obtain ⟨s, rfl, HIn⟩ := hrel
                obtain ⟨k, hk1, hk2, hS2, hbu, hcase⟩ := HIn.out
                clear HF HIn
                have hpx := fun W => Tryz.strings_HasPrefix s ⟨#[42]⟩ W
                have hown2 := own_but HOW.out hbu (by omega)
                have hbz : Below w.heap.size w wr := hb.trans (hbu.below (by omega) (by have := hb.size; omega))
                rcases hcase with ⟨rfl, hkd, hk3, hpass⟩ | ⟨hmd, hnp⟩
                · have hdat := str_starred hkd
                  have hsz : 1 ≤ (stringP pp.kind pp.text).size := by rw [size_data, hdat]; simp
                  have hext : (stringP pp.kind pp.text).extract 1 (stringP pp.kind pp.text).size = pp.text := bytes_ext (by rw [extract_data, hdat]; rfl)
                  have hssz : (stringP pp.kind pp.text).size ≤ 66 := str_size2 HFP.out
                  have hpx2 : ∀ W, Calls Tryz.prog 67 #[.string (stringP pp.kind pp.text), .string ⟨#[42]⟩] W fun e w' => e = .returned (.bool true) ∧ w' = W := fun W => by
                    have := hpx W
                    rw [hdat] at this
                    exact this
                  have htsz : pp.text.size ≤ 66 := by
                    have h1 := congrArg List.length hdat
                    rw [← size_data, List.length_cons, ← size_data] at h1
                    omega
                  obtain ⟨r, hr⟩ : ∃ r, r = nextN (namedL bs).reverse k := ⟨_, rfl⟩
                  have hnn := HNUM.out
                  have hkr : k ≤ r := by rw [hr]; exact next_ge _ _
                  have hpr : ∀ j, a ≤ j → j < r → wN j ∈ (namedL bs).reverse ∨ wE j pp.text ∈ (namedL bs).reverse := fun j h1 h2 => by
                    rcases Nat.lt_or_ge j k with h3 | h3
                    · exact hpass j h1 h3
                    · exact .inl ((hasN_iff _ _).1 (next_pass h3 (by rw [← hr]; exact h2)))
                  have hra : r ≤ a + 6020 := by have := few_passed _ _ a r hpr; omega
                  have hwsz : (wN r).size ≤ 14 := by rw [size_data, wN_data]; exact wL_len r (by omega)
                  have cW := fun (W : World) (h1 : WordSt gb gm gn N (namedL bs).reverse k W) (h2 : But gn wr W) => word_any gb gm gn N k (namedL bs).reverse W h1 (by omega) (by omega) (fun W' h => HT.out.keep (hbz.trans ((h2.trans h).below (by omega) (by have := hbz.size; omega))))
                  rw [← hr] at cW
                  have hmk := hS2.ctr
                  have HHP := Lib.hid hpx2; have HOW2 := Lib.hid hown2; have HS2 := Lib.hid hS2; have HPR := Lib.hid hpr; have HCW := Lib.hid cW; have HEX := Lib.hid hext; have HRR := Lib.hid hr
                  have hgl := hS2.n.lt
                  clear hpx hpx2 hown2 hS2 hpass hpr cW hext hr hdat
                  go_upto_region 11 with (go_at_call 67; refine (HHP.out _).mono ?_; rintro e w' ⟨rfl, hww⟩; rw [hww]; clear hww w')
                  refine wp_free 6 (by kernel_rfl) (by kernel_rfl) (But gn) (But.refl gn) (fun a b c => But.trans) (D24 gb gn r pp wr) (D24.keep hgl) (J24 gb gm gn N k r (namedL bs).reverse wr) ?_ ?_ ?_
                  · exact ⟨HS2.out.keep (Below.drew (Below.refl _ _)), (But.refl _ _).drew⟩
                  · refine ops_cons ?_ (ops_cons ?_ (ops_cons ?_ (ops_cons ?_ (ops_cons ?_ (ops_cons ?_ ops_nil)))))
                    · intro ho L a w hC hi hl hJ hG hA hd
                      have t7 : a.eval (.tmp 7) = .func (.func 187) #[] #[.pointer (some ⟨gn, 0, none⟩), .pointer (some ⟨gb, 0, none⟩)] := agree_eval hA (by kernel_rfl)
                      have u7 := (tmp_eq a 7).trans t7
                      exact free_step (W' := w) ho rfl (by simp [go_sem, execOp, u7]) ⟨rfl, But.refl _ _, hJ⟩
                    · intro ho L a w hC hi hl hJ hG hA hd
                      have t42 : a.eval (.tmp 42) = .func (.func 187) #[] #[.pointer (some ⟨gn, 0, none⟩), .pointer (some ⟨gb, 0, none⟩)] := by have := hd _ (Array.mem_of_getElem? (i := 0) rfl) rfl; exact this
                      have u42 := (tmp_eq a 42).trans t42
                      have hJ' : WordSt gb gm gn N (namedL bs).reverse k w ∧ But gn wr w := by simpa [J24, hi] using hJ
                      refine free_call (f := 187) (args := #[.pointer (some ⟨gn, 0, none⟩), .pointer (some ⟨gb, 0, none⟩)]) ho rfl (by simp [go_sem, execOp, u42]) ?_
                      refine (HCW.out w hJ'.1 hJ'.2).mono ?_
                      rintro e W' ⟨rfl, hW', hbu'⟩
                      exact ⟨_, rfl, rfl, hbu', by simpa [J24] using And.intro hW' (hJ'.2.trans hbu')⟩
                    · intro ho L a w hC hi hl hJ hG hA hd
                      have t10 : a.eval (.tmp 10) = .string (stringP pp.kind pp.text) := agree_eval hA (by kernel_rfl)
                      have u10 := (tmp_eq a 10).trans t10
                      exact free_step (W' := w) ho rfl (by simp [go_sem, execOp, u10]) ⟨rfl, But.refl _ _, hJ⟩
                    · intro ho L a w hC hi hl hJ hG hA hd
                      have t44 : a.eval (.tmp 44) = .string (stringP pp.kind pp.text) := by have := hd _ (Array.mem_of_getElem? (i := 0) rfl) rfl; exact this
                      have u44 := (tmp_eq a 44).trans t44
                      have hext := HEX.out
                      have hs1 : (1 : Int) ≤ ((stringP pp.kind pp.text).size : Int) := by omega
                      exact free_step (v := .string pp.text) (W' := w) ho rfl (by simp [go_sem, execOp, u44, hsz, hs1, hext]) ⟨rfl, But.refl _ _, hJ⟩
                    · intro ho L a w hC hi hl hJ hG hA hd
                      have t43 : a.eval (.tmp 43) = .string (wN r) := by have := hd _ (Array.mem_of_getElem? (i := 0) rfl) rfl; exact this
                      have u43 := (tmp_eq a 43).trans t43
                      have t45 : a.eval (.tmp 45) = .string pp.text := by have := hd _ (Array.mem_of_getElem? (i := 1) rfl) rfl; exact this
                      have u45 := (tmp_eq a 45).trans t45
                      have hcat : (wN r).size + pp.text.size ≤ 9223372036854775807 := by omega
                      exact free_step (v := .string (wE r pp.text)) (W' := w) ho rfl (by simp [go_sem, execOp, u43, u45, wE, hcat]) ⟨rfl, But.refl _ _, hJ⟩
                    · intro ho L a w hC hi hl hJ hG hA hd
                      have hlt := hG.size
                      have hJ' : WordSt gb gm gn N (namedL bs).reverse (bif L 1 then r + 1 else k) w ∧ But gn wr w := hJ
                      have hal : Below w.heap.size w (w.alloc (.cells #[.string ⟨#[]⟩] 9)) := balloc (Below.refl _ _) _
                      exact free_step (v := .pointer (some ⟨w.heap.size, 0, none⟩)) (W' := w.alloc (.cells #[.string ⟨#[]⟩] 9)) ho rfl (by simp [go_sem, execOp]) ⟨⟨w.heap.size, rfl, hlt, World.alloc_heap_new _ _⟩, But.of_below hal, ⟨hJ'.1.keep hal, hJ'.2.trans (But.of_below hal)⟩⟩
                  · intro vals w' hG hJ hDv
                    have hJ' : WordSt gb gm gn N (namedL bs).reverse (r + 1) w' ∧ But gn wr w' := by simpa [J24] using hJ
                    have e4 : vals 4 = .string (wE r pp.text) := hDv 4 (by omega)
                    obtain ⟨bx, e5, hbx, hBX⟩ : ∃ b, vals 5 = .pointer (some ⟨b, 0, none⟩) ∧ wr.heap.size ≤ b ∧ Blk w' b 9 #[.string ⟨#[]⟩] (0, 0) := hDv 5 (by omega)
                    clear hDv hJ hG
                    dsimp only [List.drop, List.take, putL]
                    simp only [e4, e5, Act.put, List.setIfInBounds_toArray, List.set_cons_zero, List.set_cons_succ]
                    have y5 := hBX.cell 0
                    simp only [List.getElem?_toArray, List.getElem?_cons_zero] at y5
                    have z5 := hBX.free0 0
                    have HJ := Lib.hid hJ'
                    have hbl := hBX.lt
                    have hlw := hbu.size
                    clear hJ' e4 e5 hBX HOW2
                    obtain ⟨XE, hXE⟩ : ∃ XE, XE = wE r pp.text := ⟨_, rfl⟩
                    rw [← hXE]
                    go_upto_region 12 with fail
                    generalize hw3 : World.setCell _ _ _ = w3
                    have hS3 : WordSt gb gm gn N (namedL bs).reverse (r + 1) w3 := by
                      rw [← hw3]
                      exact HJ.out.1.but (But.set _ bx 0 _) (by omega) (by omega) (by omega)
                    have hB3 : But gn wr w3 := by
                      rw [← hw3]
                      exact HJ.out.2.put hbx
                    have cx : w3.cell? ⟨bx, 0, none⟩ = some (.string XE) := by
                      rw [← hw3]
                      rw [hXE]
                      exact World.cell?_setCell_same' _ _ _ (by rw [y5]; rfl)
                    clear hw3 y5 z5 hbl HJ
                    have hbw3 : Below w.heap.size w w3 := hbz.trans (hB3.below (by omega) (by have := hbz.size; omega))
                    have cN3 := HNA.out XE bx w3 hbw3 cx
                    have HX3 := Lib.hid hXE; have HS3 := Lib.hid hS3; have HB3 := Lib.hid hB3
                    clear hXE hS3 hB3
                    cases hh : hasN (namedL bs).reverse XE
                    · rw [hh] at cN3
                      have HN3 := Lib.hid cN3
                      clear cN3
                      go_wp2_with (go_at_call 34; refine HN3.out.mono ?_; rintro e w4 ⟨rfl, hb4⟩; have c4 := cell_keep hb4 cx)
                      have hS4 := HS3.out.keep hb4
                      have hc4 := hS4.ctr
                      have hfit : InI bs pp gb gm gn N a wq XE w4 := ⟨r + 1, by omega, by omega, hS4, hbu.trans (HB3.out.trans (But.of_below hb4)), .inr ⟨by rw [HX3.out]; exact made_fresh hkd (by omega) (by rw [← HX3.out]; exact hh), by rw [HX3.out]; exact wE_plain HFP.out r⟩⟩
                      exact ⟨⟨XE, rfl, Lib.hid hfit⟩, by omega⟩
                    · rw [hh] at cN3
                      have HN3 := Lib.hid cN3
                      clear cN3
                      have hp2 : ∀ j, a ≤ j → j < r + 1 → wN j ∈ (namedL bs).reverse ∨ wE j pp.text ∈ (namedL bs).reverse := fun j h1 h2 => by
                        rcases Nat.lt_or_ge j r with h3 | h3
                        · exact HPR.out j h1 h3
                        · obtain rfl : j = r := by omega
                          exact .inr ((hasN_iff _ _).1 (by rw [← HX3.out]; exact hh))
                      have hra2 : r + 1 ≤ a + 6020 := by have := few_passed _ _ a (r + 1) hp2; omega
                      have HP2 := Lib.hid hp2
                      clear hp2 hh
                      go_wp2_with (go_at_call 34; refine HN3.out.mono ?_; rintro e w4 ⟨rfl, hb4⟩)
                      have hS4 := HS3.out.keep hb4
                      have hc4 := hS4.ctr
                      have hfit : InI bs pp gb gm gn N a wq (stringP pp.kind pp.text) w4 := ⟨r + 1, by omega, by omega, hS4, hbu.trans (HB3.out.trans (But.of_below hb4)), .inl ⟨rfl, hkd, hra2, HP2.out⟩⟩
                      exact ⟨⟨_, rfl, Lib.hid hfit⟩, by omega⟩
                · have hpx2 : ∀ W, Calls Tryz.prog 67 #[.string s, .string ⟨#[42]⟩] W fun e w' => e = .returned (.bool false) ∧ w' = W := fun W => by
                    have := hpx W
                    rw [hnp] at this
                    exact this
                  have HHP := Lib.hid hpx2; have HOW2 := Lib.hid hown2; have HS2 := Lib.hid hS2; have HMD := Lib.hid hmd
                  have yc := HAT.out wr hown2
                  have zc := hown2.frozenAt (i + 1)
                  clear hpx hpx2 hown2 hS2 hnp hmd
                  go_wp2_with (go_at_call 67; refine (HHP.out _).mono ?_; rintro e w' ⟨rfl, hww⟩; rw [hww]; clear hww w')
                  have hset := But.set wr g (i + 1) (.string s)
                  have hlw := hbu.size
                  refine ⟨⟨i + 1, by omega, by go_num, Lib.hid ⟨ws ++ [s], k, ?_, by omega, HS2.out.but hset (by omega) (by omega) (by omega), ?_, hbz.trans (hset.below (by omega) (by have := hbz.size; omega)), by simp [World.setCell]; omega⟩⟩, by simp [intOf]; omega⟩
                  · rw [List.take_add_one, HPP.out]
                    exact HMA.out.snoc HMD.out
                  · have h1 := (HOW2.out.stored (i + 1) (.string s)).1
                    rw [← rowI_set HWL.out (by rw [partsM_len x m hm]; exact hlt), List.map_set]
                    exact h1
            · obtain rfl : i = m := by omega
              rw [rowI_end hm] at HOW
              have hlen := HMA.out.len
              rw [List.take_of_length_le (by rw [partsM_len x i hm]; omega)] at HMA
              have hpf := partsM_fit HX.out i
              have hwz : ∀ y ∈ cu :: ws, y.size ≤ 200000 := by
                intro y hy
                rcases List.mem_cons.1 hy with rfl | hy
                · have := (word_ne (name_word (hcu.name HX.out.cust))).2.2.2
                  omega
                · obtain ⟨k, hk⟩ := List.mem_iff_getElem?.1 hy
                  have hk2 := (List.getElem?_eq_some_iff.1 hk).1
                  have h3 : (partsM x i)[k]? = some ((partsM x i)[k]'(by rw [← HMA.out.len]; exact hk2)) := List.getElem?_eq_getElem _
                  have := (word_ne ((HMA.out.each k _ y h3 hk).word (hpf _ (List.getElem_mem _)))).2.2.2
                  omega
              have cJ := join_any g (i + 1) cap (cu :: ws) wr w1.heap.size HOW.out (by omega) hwz
              have HJ := Lib.hid cJ; have HWS := Lib.hid hb
              clear cJ hwz
              go_wp2_with (go_at_call 75; refine HJ.out.mono ?_; rintro e w9 ⟨rfl, hb9⟩)
              go_ret
              exact ⟨cu, ws, rfl, hcu, HMA.out, bstep hb hb9⟩
end Go.Proofs.YtmlhecjhjjlhfaaGreatDoor
