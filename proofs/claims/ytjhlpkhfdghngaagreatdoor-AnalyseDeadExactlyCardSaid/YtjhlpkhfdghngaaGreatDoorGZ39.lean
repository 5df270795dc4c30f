/- The map of all words that patterns name, and the function over it: analyse.unnamed. -/
import Derived.Test.YtjhlpkhfdghngaaGreatDoorGZ36
import Derived.Test.YtjhlpkhfdghngaaGreatDoorGZ33
import Derived.Test.YtjhlpkhfdghngaaGreatDoorGZ1
import Derived.Laws.Rows
import Derived.Laws.Tables
import Derived.Laws.CopyOwn
import Derived.Test.YtjhlpkhfdghngaaGreatDoorProg
import Derived.WalkKit
import Derived.WalkSpells
import Derived.WalkLawsBesides
import Derived.Below
import Derived.Deep.QuietTactic
import Derived.BigQuiet
import Derived.Lib.QuietBelow
import Derived.Lib.Strings
import Derived.Lib.Hide
import Derived.Deep.RegionWith
import Derived.Deep.RegionHeld3
import Derived.Lib.IndexBytes
import Derived.Test.YtjhlpkhfdghngaaGreatDoorGZ4
import Derived.OwnWalk
import Derived.Maps.AppendAt
import Derived.Test.YtjhlpkhfdghngaaGreatDoorGZ17
import Derived.Test.YtjhlpkhfdghngaaGreatDoorGZ11
import Derived.Test.YtjhlpkhfdghngaaGreatDoorGZ18
import Derived.Test.YtjhlpkhfdghngaaGreatDoorGZ37
import Derived.Test.YtjhlpkhfdghngaaGreatDoorGZ32
namespace Go.Proofs.YtjhlpkhfdghngaaGreatDoor
open Go.RowKit Go.Sort
set_option linter.unusedVariables false
set_option linter.unusedSimpArgs false
set_option maxRecDepth 100000
open Go.Maps
def namedR (bs : List ByteArray) (k : Nat) : List ByteArray := (namedL (bs.take k)).reverse
theorem namedR_succ {bs : List ByteArray} {k : Nat} {b : ByteArray} (h : bs[k]? = some b) : namedR bs (k + 1) = (splitB 47 b).reverse ++ namedR bs k := by
  unfold namedR namedL
  rw [List.take_add_one, h]
  simp
theorem namedR_num {bs : List ByteArray} (hn : bs.length ≤ 64) (hs : ∀ b ∈ bs, b.size ≤ 100000) (k : Nat) : (namedR bs k).length ≤ 6400064 := by
  unfold namedR
  rw [List.length_reverse]
  have h := namedL_num 100000 (bs.take k) (fun b hb => hs b (List.mem_of_mem_take hb))
  have h2 : (bs.take k).length ≤ 64 := by rw [List.length_take]; omega
  have h3 := Nat.mul_le_mul_right (100000 + 1) h2
  omega
theorem grown_but {w w' : World} {g : Nat} (h : w.grownBy w' (some g)) : But g w w' := ⟨h.os, h.tape, h.output, h.size, fun k hk hn => h.block k hk (fun e => hn (by injection e))⟩
theorem take_rev {ws : List ByteArray} {j : Nat} {x : ByteArray} (h : ws[j]? = some x) : (ws.take (j + 1)).reverse = x :: (ws.take j).reverse := by
  rw [List.take_add_one, h]
  simp
set_option maxHeartbeats 8000000 in
theorem unnamed_any (A : Option Addr) (n c : Nat) (bs : List ByteArray) (w : World) (hR : Reads w 1 A n (bs.map .string)) (hn : n ≤ 64) (hs : ∀ b ∈ bs, b.size ≤ 100000) (hE : Env w) :
    Calls Tryz.prog 205 #[.slice A n c] w fun e w' => ∃ gb gm gn N : Nat, e = .returned (.func (.func 257) #[] #[.pointer (some ⟨gn, 0, none⟩), .pointer (some ⟨gb, 0, none⟩)]) ∧ WordSt gb gm gn N (namedL bs).reverse 0 w' ∧ (w.heap.size ≤ gb ∧ w.heap.size ≤ gm ∧ w.heap.size ≤ gn) ∧ Below w.heap.size w w' := by
  have hl : bs.length = n := by have := hR.1; simpa using this
  have cS := fun (q : ByteArray) (hq : q ∈ bs) (W : World) (hb : Below w.heap.size w W) => strSplit_any q 47 W (by have := hs q hq; omega) (Env.keep hE hb)
  have hall : (namedL bs).reverse = namedR bs n := by unfold namedR; rw [← hl, List.take_length]
  rw [hall]
  have hsz : ∀ q ∈ bs, (splitB 47 q).length ≤ 100001 ∧ ∀ x ∈ splitB 47 q, x.size ≤ 100000 := fun q hq => ⟨by have := splitB_num 47 q; have := hs q hq; omega, fun x hx => Nat.le_trans (splitB_size 47 q x hx) (hs q hq)⟩
  have hnr := namedR_num (bs := bs) (by omega) hs
  have HNR := Lib.hid hnr
  clear hnr
  have HS := Lib.hid cS; have HR := Lib.hid hR; have HSZ := Lib.hid hsz; have HLN := Lib.hid hl
  clear cS hR hsz hs hE hall hl
  have hmm := @run_makeMap Tryz.prog
  have hmf : ∀ (fn : Fn) (first cap : Array Value) (w : World), (Instr.makeFunc fn first cap).run Tryz.prog w = .ok (.func fn first cap) w := fun _ _ _ _ => rfl
  go_enter Tryz.func205, Tryz.ntmps205
  go_upto_region 2 with fail
  generalize hw0 : World.alloc _ _ = w0
  have hM0 : w0.ownsMap Tryz.prog 9 (plainElem (H := Unit) Tryz.prog 4) w.heap.size 0 (seenD (namedR bs 0)) := by
    rw [← hw0]
    exact (World.ownsMap_made w _ _ _).alloc _
  have hB0 : Blk w0 (w.heap.size + 1) 91 #[.map (some w.heap.size)] (0, 0) := by
    rw [← hw0]
    exact heap_alloc2_new w _ _
  have hb0 : Below w.heap.size w w0 := by
    rw [← hw0]
    exact ((Below.refl _ _).alloc (Nat.le_refl _) _).alloc (by simp) _
  have HM0 := Lib.hid hM0; have HB0 := Lib.hid hB0
  clear hw0 hM0 hB0
  go_wp2_with fail
  go_loopw [12] (fun iv wr => ∃ k : Nat, k ≤ n ∧ iv = .int .i64 k ∧ Hid (Blk wr (w.heap.size + 1) 91 #[.map (some w.heap.size)] (0, 0)) ∧ Hid (wr.ownsMap Tryz.prog 9 (plainElem (H := Unit) Tryz.prog 4) w.heap.size (namedR bs k).length (seenD (namedR bs k))) ∧ Below w.heap.size w wr) (fun iv _ => n - (intOf iv).toNat)
  case atStart => exact ⟨0, by omega, rfl, HB0, HM0, hb0⟩
  case round =>
    obtain ⟨k, hk, rfl, HB, HM, hb⟩ := hrel
    clear HM0 HB0 hb0
    have hgs := HB.out.lt
    by_cases hlt : k < n
    · obtain ⟨pb, po, u, rfl, hu, hcell⟩ := (HR.out.keep hb).at_ hlt
      obtain ⟨q, hq, rfl⟩ := strs_at hu
      clear hu
      have hqm := List.mem_of_getElem? hq
      have hsp := HS.out q hqm wr hb
      have hsz := HSZ.out q hqm
      have hsucc := namedR_succ hq
      generalize splitB 47 q = ws at *
      have HSP := Lib.hid hsp; have HSU := Lib.hid hsucc; have HWZ := Lib.hid hsz
      clear hsp hsucc hsz hqm
      have hk0 : (0 : Int) ≤ (k : Int) := by omega
      have hk1 : (k : Int) < (n : Int) := by omega
      go_wp2_with (go_at_call 138; refine HSP.out.mono ?_; rintro e w2 ⟨rfl, hR2, hb2⟩)
      have HR2 := Lib.hid hR2
      obtain ⟨m, hm⟩ : ∃ m, m = ws.length := ⟨_, rfl⟩
      rw [← hm] at HR2 ⊢
      have HML := Lib.hid hm
      clear hR2 hm hcell hk0 hk1
      have hs2 := hb2.size
      obtain ⟨wo, hwo⟩ : ∃ wo : World, wo = wr := ⟨_, rfl⟩
      subst hwo
      go_loopw [19] (fun iv wr => ∃ j : Nat, j ≤ m ∧ iv = .int .i64 j ∧ Hid (Blk wr (w.heap.size + 1) 91 #[.map (some w.heap.size)] (0, 0)) ∧ Hid (wr.ownsMap Tryz.prog 9 (plainElem (H := Unit) Tryz.prog 4) w.heap.size ((ws.take j).reverse ++ namedR bs k).length (seenD ((ws.take j).reverse ++ namedR bs k))) ∧ Hid (But w.heap.size w2 wr) ∧ Below w.heap.size w wr) (fun iv _ => m - (intOf iv).toNat)
      case atStart => exact ⟨0, by omega, rfl, Lib.hid (HB.out.keep hb2), Lib.hid (ownsMap_keep HM.out hb2 (by omega)), Lib.hid (But.refl _ _), bstep hb hb2⟩
      case round =>
        obtain ⟨j, hj, rfl, HB2, HM2, HBU, hbz⟩ := hrel
        by_cases hlj : j < m
        · have hR3 := HBU.out.reads HR2.out (fun _ a ha => by injection ha with ha; rw [← ha]; show wo.heap.size ≠ w.heap.size; omega)
          obtain ⟨b2, o2, e2, hc2⟩ := hR3.2 (by omega)
          injection e2 with e2
          injection e2 with e3 e4 _
          subst e3; subst e4
          obtain ⟨y, hy⟩ : ∃ y, ws[j]? = some y := ⟨_, List.getElem?_eq_getElem (by have := HML.out; omega)⟩
          have hcy : wr.cell? ⟨wo.heap.size, j, none⟩ = some (.string y) := by
            have := hc2 j (.string y) (by simp [hy])
            simpa using this
          have hyz := HWZ.out.2 y (List.mem_of_getElem? hy)
          have hkey : keyOf Tryz.prog 9 (.string y) = some (.string y.data.toList) := WideMaps.keyOf_string_mk Tryz.underlying9 (by unfold maxLen; omega)
          have htr := take_rev hy
          have HKEY := Lib.hid hkey; have HTR := Lib.hid htr
          have y3 : wr.cell? ⟨w.heap.size + 1, 0, none⟩ = some (.map (some w.heap.size)) := HB2.out.cell 0
          have hws := HWZ.out.1
          have hmw := HML.out
          have hnr := HNR.out k
          have HLEN : Hid (((ws.take j).reverse ++ namedR bs k).length < maxLen) := Lib.hid (by
            unfold maxLen
            rw [List.length_append, List.length_reverse, List.length_take]
            omega)
          clear hnr
          clear hkey htr hc2 hR3 hyz hy
          have hj0 : (0 : Int) ≤ (j : Int) := by omega
          have hj1 : (j : Int) < (m : Int) := by omega
          go_wp2_with (at_mapUpdate; refine wpList_mapUpdate_own _ rfl _ _ _ 91 rfl 9 4 keyLaw Tryz.underlying91 (plainElem (H := Unit) Tryz.prog 4) w.heap.size _ _ rfl HM2.out HLEN.out _ _ _ rfl rfl HKEY.out _ _ (plainElem_bool Tryz.underlying4 true) ?_; intro w9 hown9 hgrow9)
          have hbu9 := grown_but hgrow9
          exact ⟨⟨j + 1, by omega, by go_num, Lib.hid (hbu9.blk HB2.out (by omega)), Lib.hid (by rw [HTR.out, List.cons_append, show min (j + 1) ws.length + (namedR bs k).length = ((ws.take j).reverse ++ namedR bs k).length + 1 from by rw [List.length_append, List.length_reverse, List.length_take]; omega]; exact hown9), Lib.hid (HBU.out.trans hbu9), hbz.trans (hbu9.below (Nat.le_refl _) hbz.size)⟩, by simp [intOf]; omega⟩
        · have hjm : j = m := by omega
          have hmw := HML.out
          have hws := HWZ.out.1
          go_wp2_with fail
          refine ⟨⟨k + 1, by omega, by go_num, HB2, Lib.hid (by have := HM2.out; rw [hjm, List.take_of_length_le (by omega), ← HSU.out] at this; exact this), hbz⟩, by simp [intOf]; omega⟩
    · have hkn : k = n := by omega
      subst hkn
      go_wp2_with fail
      go_ret
      have hbl : Blk (wr.alloc (.cells #[.int .i64 0] 3)) wr.heap.size 3 #[.int .i64 ((0 : Nat) : Int)] (0, 0) := World.alloc_heap_new _ _
      exact ⟨w.heap.size + 1, w.heap.size, wr.heap.size, _, rfl, ⟨HB.out.keep (balloc (Below.refl _ _) _), HM.out.alloc _, hbl, by omega, by omega⟩, ⟨by omega, by omega, hb.size⟩, balloc hb _⟩
end Go.Proofs.YtjhlpkhfdghngaaGreatDoor
namespace Go.Proofs.YtjhlpkhfdghngaaGreatDoor
open Go.RowKit Go.Sort
set_option linter.unusedVariables false
set_option linter.unusedSimpArgs false
set_option maxRecDepth 100000
theorem find_from {f : Nat → Bool} : ∀ (n a k : Nat), k < n → (∀ j, j < k → f (a + j) = false) → f (a + k) = true → (List.range' a n).find? f = some (a + k)
  | 0, _, _, h, _, _ => by omega
  | n + 1, a, 0, _, _, h => by
    rw [List.range'_succ, List.find?_cons, show f a = true from h]; rfl
  | n + 1, a, k + 1, hk, h0, h => by
    have h1 : f a = false := h0 0 (by omega)
    have ih := find_from (f := f) n (a + 1) k (by omega) (fun j hj => by have := h0 (j + 1) (by omega); rwa [show a + (j + 1) = a + 1 + j by omega] at this) (by rwa [show a + (k + 1) = a + 1 + k by omega] at h)
    rw [List.range'_succ, List.find?_cons, h1]
    dsimp only
    rw [ih, show a + 1 + k = a + (k + 1) by omega]
theorem find_not {f : Nat → Bool} (n a : Nat) (h : ∀ j, j < n → f (a + j) = false) : (List.range' a n).find? f = none := by
  rw [List.find?_eq_none]
  intro y hy
  rw [List.mem_range'_1] at hy
  have := h (y - a) (by omega)
  rw [show a + (y - a) = y by omega] at this
  rw [this]; decide
theorem ex_match {bs : List ByteArray} {ys : List Pat} {x : Pat} {m : Nat} {c : ByteArray} {ws : List ByteArray} (hb : bs.map compileB = ys.map some) (hx : PatFit x) (hm : x.parts.length ≤ m) (h32 : m ≤ 32) (he : Exam (partsOf ys) x m c ws) :
    (bs.any fun q => matchB q (joinS (c :: ws))) = ys.any fun y => atB y x m := by
  have hl : ws.length ≤ 32 := by rw [he.len]; exact h32
  rw [Bool.eq_iff_iff, List.any_eq_true, List.any_eq_true]
  constructor
  · rintro ⟨q, hq, h⟩
    obtain ⟨y, hy, e⟩ := back_of hb hq
    refine ⟨y, hy, ?_⟩
    rw [match_join e he.name he.words hl, exam_at hx (compile_fit e) (fun q hq => List.mem_flatMap.2 ⟨y, hy, hq⟩) hm he] at h
    exact h
  · rintro ⟨y, hy, h⟩
    obtain ⟨q, hq, e⟩ := fore_of hb hy
    refine ⟨q, hq, ?_⟩
    rw [match_join e he.name he.words hl, exam_at hx (compile_fit e) (fun q hq => List.mem_flatMap.2 ⟨y, hy, hq⟩) hm he]
    exact h
theorem not_any {ys : List Pat} {x : Pat} {m : Nat} : (ys.all fun y => !atB y x m) = !(ys.any fun y => atB y x m) := by
  rw [Bool.eq_iff_iff]
  simp [List.all_eq_true]
def Missed (x : Pat) (ys : List Pat) (k : Nat) : Prop := ∀ j, j < k → (ys.any fun y => atB y x (x.parts.length + j)) = true
theorem Missed.zero (x : Pat) (ys : List Pat) : Missed x ys 0 := fun j hj => absurd hj (Nat.not_lt_zero j)
theorem Missed.succ {x : Pat} {ys : List Pat} {k : Nat} (h : Missed x ys k) (h2 : (ys.any fun y => atB y x (x.parts.length + k)) = true) : Missed x ys (k + 1) := by
  intro j hj
  rcases Nat.lt_or_ge j k with hl | hl
  · exact h j hl
  · obtain rfl : j = k := by omega
    exact h2
theorem gap_hit {p : ByteArray} {bs : List ByteArray} {x : Pat} {ys : List Pat} {k : Nat} {c : ByteArray} {ws : List ByteArray} (hp : compileB p = some x) (hb : bs.map compileB = ys.map some) (hk : x.parts.length + k ≤ mostP x) (h0 : Missed x ys k)
    (h : (bs.any fun q => matchB q (joinS (c :: ws))) = false) (he : Exam (partsOf ys) x (x.parts.length + k) c ws) : GapPost p bs (joinS (c :: ws)) true := by
  have hx := compile_fit hp
  have hm := most_le hx
  refine ⟨x, ys, hp, hb, .inr ⟨x.parts.length + k, c, ws, ?_, rfl, rfl, he⟩⟩
  unfold gapN
  refine find_from _ _ _ (by omega) (fun j hj => ?_) ?_
  · rw [not_any, h0 j hj]; rfl
  · rw [ex_match hb hx (by omega) (by omega) he] at h
    rw [not_any, h]; rfl
theorem gap_miss {p : ByteArray} {bs : List ByteArray} {x : Pat} {ys : List Pat} (hp : compileB p = some x) (hb : bs.map compileB = ys.map some) (h0 : Missed x ys (mostP x + 1 - x.parts.length)) : GapPost p bs ⟨#[]⟩ false := by
  refine ⟨x, ys, hp, hb, .inl ⟨?_, rfl, rfl⟩⟩
  unfold gapN
  refine find_not _ _ (fun j hj => ?_)
  rw [not_any, h0 j hj]; rfl
def MadeAt (named : List ByteArray) (p : Part) (w : ByteArray) : Prop := (p.kind = 0 ∧ w = p.text) ∨ (p.kind ≠ 0 ∧ ∃ j, j ≤ 1000000 ∧ w = wE j p.text ∧ w ∉ named)
theorem MadeAt.fresh {named : List ByteArray} {qs : List Part} {p : Part} {w : ByteArray} (hq : ∀ q ∈ qs, q.kind = 0 → q.text ∈ named) (h : MadeAt named p w) : FreshAt qs p w := by
  rcases h with h | ⟨hk, j, _, rfl, hn⟩
  · exact .inl h
  · exact fresh_found hq hk hn
theorem MadeAt.word {named : List ByteArray} {p : Part} {w : ByteArray} (hp : PartFit p) (h : MadeAt named p w) : isWordB w = true := by
  rcases h with ⟨hk, rfl⟩ | ⟨hk, j, hj, rfl, _⟩
  · rcases hp with ⟨_, h⟩ | ⟨h, _⟩ | ⟨h, _⟩
    · exact h
    · omega
    · omega
  · exact wE_word hp hk j hj
theorem wE_nil (j : Nat) : wE j ⟨#[]⟩ = wN j := by
  refine bytes_ext ?_
  rw [wE_data, wN_data]
  simp
theorem MadeAt.name {named : List ByteArray} {p : Part} {w : ByteArray} (hp : CustFit p) (h : MadeAt named p w) : isNameB w = true := by
  rcases h with ⟨hk, rfl⟩ | ⟨hk, j, hj, rfl, _⟩
  · rcases hp with ⟨_, h⟩ | ⟨h, _⟩
    · exact h
    · omega
  · rcases hp with ⟨h, _⟩ | ⟨_, h⟩
    · omega
    · rw [h, wE_nil]; exact wN_name j hj
structure Made (named : List ByteArray) (ps : List Part) (ws : List ByteArray) : Prop where
  len : ws.length = ps.length
  each : ∀ (k : Nat) (p : Part) (w : ByteArray), ps[k]? = some p → ws[k]? = some w → MadeAt named p w
theorem Made.nil (named : List ByteArray) : Made named [] [] := ⟨rfl, fun k p w h => by simp at h⟩
theorem Made.snoc {named : List ByteArray} {ps : List Part} {ws : List ByteArray} {p : Part} {w : ByteArray} (h : Made named ps ws) (hw : MadeAt named p w) : Made named (ps ++ [p]) (ws ++ [w]) := by
  refine ⟨by simp [h.len], fun k q v hq hv => ?_⟩
  rcases Nat.lt_or_ge k ps.length with hl | hl
  · rw [List.getElem?_append_left hl] at hq
    rw [List.getElem?_append_left (by rw [h.len]; exact hl)] at hv
    exact h.each k q v hq hv
  · rw [List.getElem?_append_right hl] at hq
    rw [List.getElem?_append_right (by rw [h.len]; exact hl), h.len] at hv
    have hk : k - ps.length = 0 := by
      have := (List.getElem?_eq_some_iff.1 hq).1
      simp at this; omega
    rw [hk] at hq hv
    simp at hq hv
    subst hq; subst hv
    exact hw
theorem exam_of {named : List ByteArray} {qs : List Part} {x : Pat} {m : Nat} {c : ByteArray} {ws : List ByteArray} (hq : ∀ q ∈ qs, q.kind = 0 → q.text ∈ named) (hx : PatFit x) (hm : x.parts.length ≤ m) (hc : MadeAt named x.cust c) (hw : Made named (partsM x m) ws) : Exam qs x m c ws := by
  have hl := hw.len
  rw [partsM_len x m hm] at hl
  refine ⟨hc.name hx.cust, hc.fresh hq, fun w hww => ?_, hl, fun k p w h1 h2 => (hw.each k p w h1 h2).fresh hq⟩
  obtain ⟨k, hk⟩ := List.mem_iff_getElem?.1 hww
  have hk2 := (List.getElem?_eq_some_iff.1 hk).1
  have h3 : (partsM x m)[k]? = some ((partsM x m)[k]'(by rw [partsM_len x m hm]; omega)) := List.getElem?_eq_getElem _
  exact (hw.each k _ w h3 hk).word (partsM_fit hx m _ (List.getElem_mem _))
end Go.Proofs.YtjhlpkhfdghngaaGreatDoor
namespace Go.Proofs.YtjhlpkhfdghngaaGreatDoor
open Go.RowKit Go.Sort
set_option linter.unusedVariables false
set_option linter.unusedSimpArgs false
set_option maxRecDepth 100000
open Go.Maps
theorem splitOwn_any (s : ByteArray) (c : UInt8) (w : World) (hs : s.size ≤ 1000000) (hE : Env w) : Calls Tryz.prog 138 #[.string s, .string ⟨#[c]⟩] w fun e w' => e = .returned (.slice (some ⟨w.heap.size, 0, none⟩) (splitB c s).length (splitB c s).length) ∧ w'.ownsRow w.heap.size 9 1 (.slice (some ⟨w.heap.size, 0, none⟩) (splitB c s).length (splitB c s).length) (splitB c s).length ((splitB c s).map .string) ∧ Below w.heap.size w w' := by
  obtain ⟨m, hm⟩ := hE
  refine (Tryz.strings_Split s ⟨#[c]⟩ m w (by omega) hm (show 1 ≤ 1 from Nat.le_refl _)).mono ?_
  rintro e w' ⟨rfl, rfl⟩
  have he := split_eq c _ s rfl
  have hl := count_split c s
  rw [he, hl]
  refine ⟨rfl, ?_, balloc (Below.refl _ _) _⟩
  have hlen : (splitB c s).length ≤ s.size + 1 := splitB_num c s
  have h := World.ownsRow_lit (base := w.heap.size) (e := 9) (size := 1) w ((splitB c s).map Value.string).toArray (splitB c s).length (Nat.le_refl _) (by unfold maxLen; omega) (by simp)
  simpa using h
theorem contains_any (A : Option Addr) (n c : Nat) (ps : List ByteArray) (tag : ByteArray) (W : World) (hR : Reads W 1 A n (ps.map .string)) (hn : n ≤ 1000000) : Calls Tryz.prog 148 #[.slice A n c, .string tag] W (Ret W (.bool (Lib.containsS ps tag))) := by
  have hl : ps.length = n := by have := hR.1; simpa using this
  subst hl
  by_cases h0 : ps = []
  · subst h0
    refine (Tryz.slices_Contains_string_empty A c tag W).mono ?_
    rintro e w' ⟨rfl, rfl⟩
    exact ⟨rfl, Below.refl _ _⟩
  · obtain ⟨b, o, rfl, hc⟩ := hR.2 (List.length_pos_iff.2 h0)
    have := Tryz.slices_Contains_string b o ps.length c ps tag W (Nat.le_refl _) (by omega) (fun j hj => by
      refine hc j _ ?_
      rw [List.getElem?_map, List.getElem?_eq_getElem hj]
      simp [List.getD_eq_getElem?_getD, List.getElem?_eq_getElem hj])
    refine this.mono ?_
    rintro e w' ⟨rfl, rfl⟩
    rw [List.take_length]
    exact ⟨rfl, Below.refl _ _⟩
def SpV (q : ByteArray) : Value → World → Prop := fun v W => ∃ g, v = .slice (some ⟨g, 0, none⟩) (splitB 47 q).length (splitB 47 q).length ∧ Reads W 1 (some ⟨g, 0, none⟩) (splitB 47 q).length ((splitB 47 q).map .string)
theorem keeps_sp (q : ByteArray) : Keeps (SpV q) := fun _ _ _ ⟨g, e, hr⟩ hb => ⟨g, e, hr.keep hb⟩
theorem ex1_any (q x : ByteArray) (b : Nat) (w : World) (hc : w.cell? ⟨b, 0, none⟩ = some (.string x)) (hq : q.size ≤ 100000) (hE : Env w) : Calls Tryz.prog 206 #[.string q, .pointer (some ⟨b, 0, none⟩)] w (Ret w (.bool (Lib.containsS (splitB 47 q) x))) := by
  have cS := fun W (hb : Below w.heap.size w W) => strSplit_any q 47 W (by omega) (Env.keep hE hb)
  have cK := fun A n c W hR hn => contains_any A n c (splitB 47 q) x W hR hn
  have hnum := splitB_num 47 q
  generalize Lib.containsS (splitB 47 q) x = v at *
  have HS := Lib.hid cS; have HK := Lib.hid cK; have HNUM := Lib.hid hnum
  clear cS cK hnum
  go_enter Tryz.func206, Tryz.ntmps206
  go_upto_region 1 with fail
  refine wp_detD 4 (by kernel_rfl) (by kernel_rfl) (by kernel_rfl) (DL [IsV (.string q), SpV q, IsV (.string x), IsV (.bool v)]) (DL.keep _ ⟨keeps_is _, keeps_sp _, keeps_is _, keeps_is _, trivial⟩) (fun W => Below w.heap.size w W ∧ W.cell? ⟨b, 0, none⟩ = some (.string x)) ⟨Below.drew (Below.refl _ _), hc⟩ (fun _ _ h hb => ⟨bstep h.1 hb, cell_keep hb h.2⟩) ?_ ?_
  · dsimp only [List.take_succ_cons, List.take_zero, DetD]
    refine ⟨fun vals W hS hd => ?_, fun vals W hS hd => ?_, fun vals W hS hd => ?_, fun vals W hS hd => ?_, trivial⟩
    · (try simp only [DepsL, DL, IsV, List.getD_cons_zero, List.getD_cons_succ, Region.binds, and_true, true_and] at hd)
      simp only [putL, List.take_succ_cons, List.take_zero, List.drop_succ_cons, List.drop_zero, Act.put, List.setIfInBounds_toArray, List.set_cons_succ, List.set_cons_zero, List.getD_cons_zero, List.getD_cons_succ]
      clear hd
      go_wp2
      exact ⟨rfl, rfl, rfl, belB⟩
    · (try simp only [DepsL, DL, IsV, List.getD_cons_zero, List.getD_cons_succ, Region.binds, and_true, true_and] at hd)
      simp only [putL, List.take_succ_cons, List.take_zero, List.drop_succ_cons, List.drop_zero, Act.put, List.setIfInBounds_toArray, List.set_cons_succ, List.set_cons_zero, List.getD_cons_zero, List.getD_cons_succ]
      (try simp only [hd])
      clear hd
      go_wp2_with (go_at_call 138; refine (HS.out W hS.1).mono ?_; rintro e w2 ⟨rfl, hR2, hb2⟩)
      exact ⟨rfl, ⟨_, rfl, hR2⟩, rfl, hb2⟩
    · (try simp only [DepsL, DL, IsV, List.getD_cons_zero, List.getD_cons_succ, Region.binds, and_true, true_and] at hd)
      simp only [putL, List.take_succ_cons, List.take_zero, List.drop_succ_cons, List.drop_zero, Act.put, List.setIfInBounds_toArray, List.set_cons_succ, List.set_cons_zero, List.getD_cons_zero, List.getD_cons_succ]
      clear hd
      have cc := hS.2
      go_wp2
      exact ⟨rfl, rfl, rfl, belB⟩
    · (try simp only [DepsL, DL, IsV, List.getD_cons_zero, List.getD_cons_succ, Region.binds, and_true, true_and] at hd)
      obtain ⟨⟨g, e1, hR1⟩, e2⟩ := hd
      simp only [putL, List.take_succ_cons, List.take_zero, List.drop_succ_cons, List.drop_zero, Act.put, List.setIfInBounds_toArray, List.set_cons_succ, List.set_cons_zero, List.getD_cons_zero, List.getD_cons_succ]
      simp only [e1, e2]
      go_wp2_with (go_at_call 148; refine (HK.out _ _ _ W hR1 (by have := HNUM.out; omega)).mono ?_; rintro e w2 ⟨rfl, hb2⟩)
      exact ⟨rfl, rfl, rfl, hb2⟩
  · intro vals w9 hS9 hD
    have e3 : vals 3 = .bool v := hD 3 (by omega)
    simp only [putL, List.take_succ_cons, List.take_zero, List.drop_succ_cons, List.drop_zero, Act.put, List.setIfInBounds_toArray, List.set_cons_succ, List.set_cons_zero, List.getD_cons_zero, List.getD_cons_succ]
    simp only [e3]
    have hbE := hS9.1
    clear hD
    go_wp2
    go_ret
    exact ⟨rfl, hbE⟩
theorem named_has (bs : List ByteArray) (x : ByteArray) : (bs.any fun q => Lib.containsS (splitB 47 q) x) = hasN (namedL bs).reverse x := by
  rw [Bool.eq_iff_iff, List.any_eq_true, hasN_iff, List.mem_reverse]
  unfold namedL
  rw [List.mem_flatMap]
  exact exists_congr fun q => and_congr_right fun _ => Lib.containsS_iff _ _
theorem anyNamed_any (A : Option Addr) (n c : Nat) (bs : List ByteArray) (x : ByteArray) (b : Nat) (w : World) (hR : Reads w 1 A n (bs.map .string)) (hn : n ≤ 1000) (hs : ∀ q ∈ bs, q.size ≤ 100000) (hc : w.cell? ⟨b, 0, none⟩ = some (.string x)) (hE : Env w) :
    Calls Tryz.prog 69 #[.slice A n c, .func (.func 206) #[] #[.pointer (some ⟨b, 0, none⟩)]] w (Ret w (.bool (hasN (namedL bs).reverse x))) := by
  rw [← named_has]
  exact containsFuncC_any 206 (enters_of Tryz.func206 (by kernel_rfl) rfl) (.pointer (some ⟨b, 0, none⟩)) (fun q => Lib.containsS (splitB 47 q) x) A n c bs w (fun y hy W hb => ex1_any y x b W (cell_keep hb hc) (hs y hy) (Env.keep hE hb)) hR (by omega)
end Go.Proofs.YtjhlpkhfdghngaaGreatDoor
namespace Go.Proofs.YtjhlpkhfdghngaaGreatDoor
open Go.RowKit Go.Sort
set_option linter.unusedVariables false
set_option linter.unusedSimpArgs false
set_option maxRecDepth 100000
section
variable {H : Type} {enc : TypeId × Value → H} {W : World} {base : Nat} {sp : Nat → Bool} {hd : Bool}
theorem slice_bound {t e : TypeId} (ht : Tryz.prog.underlying t = some (.slice e)) {A : Option Addr} {n c : Nat} {fuel : Nat} {x : DataW H × List MemPlace} (h : DataW.trod enc Tryz.prog W base sp hd fuel t [.slice A n c] = some x) : n ≤ 9223372036854775807 := by
  rcases Go.Deep.open_slice ht h with ⟨h0, _⟩ | ⟨a, len, cap, m, k, D, Pl, hcs, _, hl, hm, _⟩
  · injection h0 with h0
    injection h0 with h1 h2 h3
    omega
  · injection hcs with hcs
    injection hcs with h1 h2 h3
    unfold maxLen at hm
    omega
def D16.cells (d : D16) : List Value := [.int .u8 d.a0, .int .u8 d.a1, .int .u8 d.a2, .int .u8 d.a3, .int .u8 d.a4, .int .u8 d.a5, .int .u8 d.a6, .int .u8 d.a7, .int .u8 d.a8, .int .u8 d.a9, .int .u8 d.a10, .int .u8 d.a11, .int .u8 d.a12, .int .u8 d.a13, .int .u8 d.a14, .int .u8 d.a15]
end
end Go.Proofs.YtjhlpkhfdghngaaGreatDoor
