/- variant.union of texts: the members of both lists. -/
import Derived.Test.YtmlhecjhjjlhfaaGreatDoorSZ44
import Derived.Test.YtmlhecjhjjlhfaaGreatDoorSZ25
import Derived.Test.YtmlhecjhjjlhfaaGreatDoorSZ8
import Derived.Test.YtmlhecjhjjlhfaaGreatDoorSZ12
import Derived.Test.YtmlhecjhjjlhfaaGreatDoorSZ30
import Derived.Test.YtmlhecjhjjlhfaaGreatDoorProg
import Derived.WalkKit
import Derived.WalkSpells
import Derived.WalkLawsBesides
import Derived.Below
import Derived.Deep.QuietTactic
import Derived.BigQuiet
import Derived.Lib.QuietBelow
import Derived.Lib.Strings
import Derived.Lib.Hide
import Derived.Deep.RegionWith
import Derived.Deep.RegionHeld3
import Derived.Lib.IndexBytes
import Derived.Test.YtmlhecjhjjlhfaaGreatDoorSZ41
import Derived.Test.YtmlhecjhjjlhfaaGreatDoorSZ7
import Derived.Test.YtmlhecjhjjlhfaaGreatDoorSZ6
import Derived.Test.YtmlhecjhjjlhfaaGreatDoorSZ16
import Derived.Lib.AppendStr
namespace Go.Proofs.YtmlhecjhjjlhfaaGreatDoor
open Go.RowKit Go.Sort
set_option linter.unusedVariables false
set_option linter.unusedSimpArgs false
set_option maxRecDepth 100000
theorem clone_own (A : Option Addr) (n c : Nat) (zs : List ByteArray) (w : World) (hA : Reads w 1 A n (zs.map .string)) (hn : n ≤ 1000000) : Calls Tryz.prog 176 #[.slice A n c] w fun e w' => ∃ v, e = .returned v ∧ w'.ownsRow w.heap.size 9 1 v n (zs.map .string) ∧ Below w.heap.size w w' := by
  rcases Nat.eq_zero_or_pos n with h0 | h0
  · subst h0
    obtain rfl : zs = [] := List.eq_nil_of_length_eq_zero (by have := hA.1; simpa using this)
    cases A with
    | none => exact (Tryz.slices_Clone_string_nil 0 c w).mono fun e w' ⟨h1, h2⟩ => ⟨_, h1, ⟨rfl, .inl ⟨rfl, rfl⟩⟩, by rw [h2]; exact Below.refl _ _⟩
    | some a =>
      refine (Tryz.slices_Clone_string_zero a c w).mono ?_
      rintro e w' ⟨v', rfl, hown, _, hb⟩
      exact ⟨v', rfl, hown, hb⟩
  · exact (cloneS A n c zs w hA h0 hn).mono fun e w' ⟨g, cap, h1, h2, h3⟩ => ⟨_, h1, h2, h3⟩
theorem enc_toB (l : List (List UInt8)) : l.map encStr = (l.map toB).map .string := by rw [List.map_map]; rfl
theorem sort_own (zs : List ByteArray) (n base : Nat) (v : Value) (w : World) (hrow : w.ownsRow base 9 1 v n (zs.map .string)) (hn : n ≤ 1000000) (hbs : base ≤ w.heap.size) :
    Calls Tryz.prog 177 #[v] w fun e w' => e = .returned (.tuple #[]) ∧ w'.ownsRow base 9 1 v n ((sortL (lists zs)).map encStr) ∧ Below base w w' := by
  have hll := lists_len zs
  have hln : zs.length = n := by have := hrow.1; simp at this; omega
  rw [lists_enc] at hrow
  rcases hrow.2 with ⟨rfl, hz⟩ | ⟨gb, cap, cur, rfl, hbase, hgb, r1, r2, r3, r4⟩
  · have hps : zs = [] := List.eq_nil_of_length_eq_zero (by omega)
    subst hps
    subst hz
    refine (Tryz.slices_Sort_string_none none 0 w).mono ?_
    rintro e w' ⟨rfl, rfl⟩
    exact ⟨rfl, by simpa [lists, sortL] using hrow, Below.refl _ _⟩
  · have hH : Holds encStr w gb 0 (lists zs).toArray := holds_of_block hgb (by rw [hll, hln]; simpa using r4)
    have hgl : gb < w.heap.size := (Array.getElem?_eq_some_iff.1 hgb).1
    have cS := Tryz.slices_Sort_string gb 0 cap (lists zs) w hH hgl (by omega)
    rw [hll, hln] at cS
    refine cS.mono ?_
    rintro e w' ⟨rfl, nn, os, rfl⟩
    refine ⟨rfl, ?_, (Below.refl base w).grown (grownBy_sorted _) hbs (fun j hj => by cases hj; exact hbase)⟩
    have := ownsRow_sorted (w := w) (base := base) (g := gb) (cap := cap) (n := nn) (e := 9) (os := os) (cur := cur) (ss := lists zs) (ts := sortL (lists zs)) (by simp [sortL]) hbase hgb (by rw [hll, hln]; exact r1) r2 (by rw [r3])
    rw [hll, hln] at this
    exact this
set_option maxHeartbeats 1000000 in
theorem compact_own (zs : List (List UInt8)) (n base : Nat) (v : Value) (w : World) (hrow : w.ownsRow base 9 1 v n (zs.map encStr)) (hn : n ≤ 1000000) (hbs : base ≤ w.heap.size) :
    Calls Tryz.prog 144 #[v] w fun e w' => ∃ S c, e = .returned (.slice S (Lib.compact zs).length c) ∧ Reads w' 1 S (Lib.compact zs).length (((Lib.compact zs).map toB).map .string) ∧ Below base w w' := by
  have hln : zs.length = n := by have := hrow.1; simp at this; omega
  have hcl := Lib.compact_length_le zs
  rcases hrow.2 with ⟨rfl, hz⟩ | ⟨gb, cap, cur, rfl, hbase, hgb, r1, r2, r3, r4⟩
  · subst hz
    obtain rfl : zs = [] := List.eq_nil_of_length_eq_zero hln
    refine (Tryz.slices_Compact_string_empty none 0 w).mono ?_
    rintro e w' ⟨rfl, rfl⟩
    exact ⟨none, 0, rfl, ⟨rfl, fun h => absurd h (by decide)⟩, Below.refl _ _⟩
  · have hH : Holds encStr w gb 0 zs.toArray := holds_of_block hgb (by rw [hln]; simpa using r4)
    have hgl : gb < w.heap.size := (Array.getElem?_eq_some_iff.1 hgb).1
    have cK := Tryz.slices_Compact_string gb 0 cap zs w hH (by omega) (by omega)
    rw [hln] at cK
    refine cK.mono ?_
    rintro e w3 ⟨rfl, q, hw3⟩
    have hb3 : Below base w w3 := by
      have hb0 : Below base w w := Below.refl base w
      rw [hw3]
      exact hb0.grown (grownBy_put (w := w) (g := gb) (n := q) (Lib.compact zs ++ List.replicate (n - (Lib.compact zs).length) []).toArray) hbs (fun j hj => by cases hj; exact hbase)
    refine ⟨some ⟨gb, 0, none⟩, cap, rfl, ⟨by simp, fun _ => ⟨gb, 0, rfl, fun j u hu => ?_⟩⟩, hb3⟩
    rw [hw3]
    clear hb3 hw3
    have hh := holds_putRow encStr (Sort.ahead w q) gb 0 zs.toArray (Lib.compact zs ++ List.replicate (n - (Lib.compact zs).length) []).toArray hH (by simp; omega)
    rw [← enc_toB, List.getElem?_map, Option.map_eq_some_iff] at hu
    obtain ⟨y, hy, rfl⟩ := hu
    have hjl : j < (Lib.compact zs).length := (List.getElem?_eq_some_iff.1 hy).1
    have h1 := (hh j (by simp; omega)).1
    rw [h1]
    congr 1
    rw [getElem!_pos _ j (by simp; omega)]
    have : (Lib.compact zs ++ List.replicate (n - (Lib.compact zs).length) ([] : List UInt8)).toArray[j]'(by simp; omega) = y := by
      obtain ⟨_, h2⟩ := List.getElem?_eq_some_iff.1 hy
      simp [List.getElem_append_left hjl, h2]
    rw [this]
def UnionPost (xs ys : List ByteArray) (w : World) (e : Ending) (w' : World) : Prop :=
  Below w.heap.size w w' ∧ ∃ (S : Option Addr) (c : Nat) (zs : List ByteArray), e = .returned (.slice S zs.length c) ∧ Reads w' 1 S zs.length (zs.map .string) ∧ (∀ x : ByteArray, x ∈ zs ↔ x ∈ xs ∨ x ∈ ys) ∧ zs.length ≤ xs.length + ys.length
theorem union_mem (xs ys : List ByteArray) (x : ByteArray) : x ∈ (Lib.compact (sortL (lists (xs ++ ys)))).map toB ↔ x ∈ xs ∨ x ∈ ys := by
  have h := (tagZ_spec (xs ++ ys)).2
  unfold tagZ at h
  rw [List.mem_map, ← List.mem_append]
  constructor
  · rintro ⟨a, ha, rfl⟩
    obtain ⟨q, hq, rfl⟩ := List.mem_map.1 ((h a).1 ha)
    have : toB q.data.toList = q := bytes_ext (by simp [toB])
    rw [this]; exact hq
  · intro hx
    exact ⟨x.data.toList, (h _).2 (List.mem_map.2 ⟨x, hx, rfl⟩), bytes_ext (by simp [toB])⟩
set_option maxHeartbeats 2000000 in
theorem union_any (A : Option Addr) (na ca : Nat) (B : Option Addr) (nb cb : Nat) (xs ys : List ByteArray) (w : World) (hA : Reads w 1 A na (xs.map .string)) (hB : Reads w 1 B nb (ys.map .string)) (h1 : na ≤ 1000) (h2 : nb ≤ 1000) :
    Calls Tryz.prog 116 #[.slice A na ca, .slice B nb cb] w (UnionPost xs ys w) := by
  have hla : xs.length = na := by have := hA.1; simp at this; omega
  have hlb : ys.length = nb := by have := hB.1; simp at this; omega
  obtain ⟨i0, hi0, hz0, hz1, hz2⟩ := info_parts infStrW
  have HI := Lib.hid (And.intro hi0 (And.intro hz0 (And.intro hz1 hz2)))
  have cC := clone_own A na ca xs w hA (by omega)
  have cS := fun v W => sort_own (xs ++ ys) (na + nb) w.heap.size v W
  have cK := fun v W => compact_own (sortL (lists (xs ++ ys))) (na + nb) w.heap.size v W
  have hP : ∀ e w', Below w.heap.size w w' → (∃ S c, e = .returned (.slice S (Lib.compact (sortL (lists (xs ++ ys)))).length c) ∧ Reads w' 1 S (Lib.compact (sortL (lists (xs ++ ys)))).length (((Lib.compact (sortL (lists (xs ++ ys)))).map toB).map .string)) → UnionPost xs ys w e w' := by
    rintro e w' hb ⟨S, c, rfl, hR⟩
    refine ⟨hb, S, c, (Lib.compact (sortL (lists (xs ++ ys)))).map toB, by rw [List.length_map], by rw [List.length_map]; exact hR, union_mem xs ys, ?_⟩
    have h1 := Lib.compact_length_le (sortL (lists (xs ++ ys)))
    have h2 : (sortL (lists (xs ++ ys))).length = xs.length + ys.length := by simp [sortL, lists]
    rw [List.length_map]
    omega
  generalize Lib.compact (sortL (lists (xs ++ ys))) = K at *
  generalize sortL (lists (xs ++ ys)) = Z at *
  generalize hR : UnionPost xs ys w = R at *
  have HC := Lib.hid cC; have HS := Lib.hid cS; have HK := Lib.hid cK; have HP := Lib.hid hP; have HB := Lib.hid hB
  clear hi0 hz0 hz1 hz2 cC cS cK hP hA hB hla hlb hR
  go_enter Tryz.func116, Tryz.ntmps116
  go_wp2_with (first | (go_at_call 176; refine HC.out.mono ?_; rintro e w1 ⟨v1, rfl, hown1, hb1⟩; have HO1 := Lib.hid hown1; clear hown1) | (at_builtin; refine wpList_append_reads _ rfl _ _ 32 rfl w.heap.size 9 i0 (.string ⟨#[]⟩) 16 Tryz.underlying32 HI.out.1 HI.out.2.1 HI.out.2.2.1 HI.out.2.2.2 rfl _ _ _ rfl HO1.out B nb cb (ys.map .string) rfl (HB.out.keep hb1) (strs_one _) (by unfold maxLen; omega) (by omega) hb1.size ?_; intro v2 w2 hown2 hg2; rw [← List.map_append] at hown2; have hb2 : Below w.heap.size w w2 := hb1.grown hg2 hb1.size (fun r e => (HO1.out.lt r e).1)) | (go_at_call 177; refine (HS.out _ _ hown2 (by omega) hb2.size).mono ?_; rintro e w3 ⟨rfl, hown3, hb3⟩) | (go_at_call 144; refine (HK.out _ _ hown3 (by omega) (by have := hb2.size; have := hb3.size; omega)).mono ?_; rintro e w4 ⟨S, c, rfl, hr4, hb4⟩))
  exact HP.out _ _ ((hb2.trans hb3).trans hb4) ⟨S, c, rfl, hr4⟩
end Go.Proofs.YtmlhecjhjjlhfaaGreatDoor
namespace Go.Proofs.YtmlhecjhjjlhfaaGreatDoor
open Go.RowKit Go.Sort
set_option linter.unusedVariables false
set_option linter.unusedSimpArgs false
set_option maxRecDepth 100000
structure SampM where
  h : List Hdr
  A : Option Addr
  c : Nat
def SampM.cells (x : SampM) : List Value := [.slice x.A x.h.length x.c]
theorem SampM.cells_len (x : SampM) : x.cells.length = 1 := rfl
structure SampReads (w : World) (x : SampM) : Prop where
  r : HdrsRead w x.A x.h.length x.h
  t : OfType w x.A x.h.length 134
  l : x.h.length ≤ 1
theorem SampReads.keep {w w' : World} {x : SampM} (h : SampReads w x) (hb : Below w.heap.size w w') : SampReads w' x := ⟨h.r.keep hb, h.t.keep hb, h.l⟩
theorem own_cells_type {W : World} {base n size : Nat} {e : TypeId} {v : Value} {xs : List Value} (h : W.ownsRow base e size v n xs) {g : Nat} (hg : v.ownBlock = some g) : ∃ cs, W.heap[g]? = some (.cells cs e (0, 0)) := by
  rcases h.2 with ⟨rfl, _⟩ | ⟨g', cap, cur, rfl, h1, h2, _⟩
  · cases hg
  · injection hg with hg
    subst hg
    exact ⟨cur, h2⟩
theorem SampReads.grown {W W' : World} {base n : Nat} {v : Value} {xs : List Value} {x : SampM} (h : SampReads W x) (ho : W.ownsRow base 23 1 v n xs) (hg : W.grownBy W' v.ownBlock) : SampReads W' x := by
  rcases Nat.eq_zero_or_pos x.h.length with h0 | h0
  · refine ⟨⟨rfl, ?_⟩, fun h => absurd h (by omega), h.l⟩
    refine ⟨?_, fun h => absurd h (by omega)⟩
    have := h.r.rows.1
    exact this
  · obtain ⟨b, o, cs, fr, hA, hB⟩ := h.t h0
    have hbl : b < W.heap.size := (Array.getElem?_eq_some_iff.1 hB).1
    have hne : some b ≠ v.ownBlock := by
      intro he
      obtain ⟨cs', hc⟩ := own_cells_type ho he.symm
      have h3 := hB.symm.trans hc
      injection h3 with h3
      injection h3 with _ h3 _
      exact absurd h3 (by decide)
    have hblk : W'.heap[b]? = W.heap[b]? := hg.block b hbl (by first | exact hne | exact fun e => hne e.symm)
    refine ⟨⟨rfl, ⟨h.r.rows.1, fun _ => ?_⟩⟩, fun _ => ⟨b, o, cs, fr, hA, hblk.trans hB⟩, h.l⟩
    obtain ⟨b', o', hA', hc⟩ := h.r.rows.2 h0
    rw [hA] at hA'
    injection hA' with hA'
    injection hA' with e1 e2 _
    subst e1; subst e2
    exact ⟨b, o, hA, fun j u hu => (World.cell?_of_block hblk).trans (hc j u hu)⟩
theorem samp_new (W : World) (hd y : ByteArray) (o : Obj) : SampReads ((W.alloc (.cells #[.string hd, .string y] 134)).alloc o) ⟨[⟨hd, y⟩], some ⟨W.heap.size, 0, none⟩, 1⟩ := by
  have hB : Blk ((W.alloc (.cells #[.string hd, .string y] 134)).alloc o) W.heap.size 134 #[.string hd, .string y] (0, 0) := heap_alloc2_old W _ _
  refine ⟨⟨rfl, ⟨rfl, fun _ => ⟨W.heap.size, 0, rfl, fun j u hu => ?_⟩⟩⟩, fun _ => ⟨_, 0, _, _, rfl, hB⟩, by simp⟩
  rw [Nat.zero_add]
  exact (cell_of_row _ _ j _ _ _ hB).trans (by simpa [Hdr.cells] using hu)
theorem cell_one_at (w : World) (x : Value) (t : TypeId) (g : Nat) (hg : g = w.heap.size) : ∀ j u, [x][j]? = some u → (w.alloc (.cells #[x] t)).cell? ((⟨g, 0, none⟩ : Addr).add j) = some u := by
  subst hg
  exact cell_one_new w x t
theorem samp_nil (W : World) : SampReads W ⟨[], none, 0⟩ := ⟨⟨rfl, Reads.nil_ _ _ _⟩, fun h => absurd h (by simp), by simp⟩
structure SampsRead (w : World) (A : Option Addr) (n : Nat) (L : List SampM) : Prop where
  len : L.length = n
  rows : Reads w 1 A n (L.flatMap SampM.cells)
  each : ∀ x ∈ L, SampReads w x
theorem SampsRead.keep {w w' : World} {A : Option Addr} {n : Nat} {L : List SampM} (h : SampsRead w A n L) (hb : Below w.heap.size w w') : SampsRead w' A n L := ⟨h.len, h.rows.keep hb, fun x hx => (h.each x hx).keep hb⟩
theorem SampsRead.at_ {w : World} {A : Option Addr} {n k : Nat} {L : List SampM} {x : SampM} (h : SampsRead w A n L) (hk : L[k]? = some x) :
    SampReads w x ∧ ∃ b o, A = some ⟨b, o, none⟩ ∧ ∀ j u, x.cells[j]? = some u → w.cell? ⟨b, o + k * 1 + j, none⟩ = some u :=
  ⟨h.each x (List.mem_of_getElem? hk), Reads.row h.rows (fun a _ => a.cells_len) h.len hk⟩
def SampPost (a : List VaryV) (v : VaryV) (w : World) (e : Ending) (w' : World) : Prop :=
  Below w.heap.size w w' ∧ ∃ A c L, e = .returned (.slice A L.length c) ∧ SampsRead w' A L.length L ∧ L.length ≤ 21 ∧ Samples a v (L.map (·.h))
theorem infSlH : (Tryz.prog.info? 23).map (fun i => (i.zero, i.size, i.bytes)) = some (some (.slice none 0 0), 1, 24) := by kernel_rfl
def oneH (hd y : ByteArray) : List Hdr := [⟨hd, y⟩]
theorem samples_spec {a : List VaryV} {v : VaryV} {zs : List ByteArray} {S : List (List Hdr)} (hz : ∀ y, y ∈ zs ↔ (y ∈ v.values ∨ ∃ u ∈ a, u.header = v.header ∧ y ∈ u.values)) (hS : S = zs.map (oneH v.header) ++ [[]]) : Samples a v S := by
  subst hS
  exact ⟨by simp, fun x hx => List.mem_append.2 (.inl (List.mem_map.2 ⟨x, (hz x).2 hx, rfl⟩))⟩
theorem of_at {a : List VaryM} (hc : checkV a = 0) (h : ByteArray) : (ofV a h = -1 ∧ ∀ u ∈ a, u.v.header ≠ h) ∨ ∃ (j : Nat) (x : VaryM), ofV a h = (j : Int) ∧ a[j]? = some x ∧ x.v.header = h ∧ ∀ u ∈ a, u.v.header = h → u = x := by
  rcases find_idx (fun x : VaryM => x.v.header.toList == h.toList) a 0 with ⟨h1, h2⟩ | ⟨j, x, h1, h2, h3⟩
  · refine .inl ⟨h1, fun u hu e => ?_⟩
    have := List.find?_eq_none.1 h2 u hu
    simp [e] at this
  · have hx : x.v.header = h := bytes_ext (by
      have := List.find?_some h3
      rw [Lib.toList_data, Lib.toList_data] at this
      simpa using this)
    refine .inr ⟨j, x, by unfold ofV; rw [h1, Nat.zero_add], h2, hx, fun u hu e => ?_⟩
    obtain ⟨i, hi⟩ := List.mem_iff_getElem?.1 hu
    have := check_once hc hi h2 (by rw [e, hx])
    subst this
    exact Option.some.inj (hi.symm.trans h2)
def ValsOf (a : List VaryM) (v : VaryV) (zs : List ByteArray) : Prop := ∀ y : ByteArray, y ∈ zs ↔ (y ∈ v.values ∨ ∃ u ∈ a.map (·.v), u.header = v.header ∧ y ∈ u.values)
def sampO (v : Value) (k : Nat) (B : Option Addr) (d : Nat) : Prop := v = .slice B k d
set_option maxHeartbeats 8000000 in
theorem samples_any (A : Option Addr) (n c : Nat) (L : List VaryM) (x : VaryM) (w : World) (hL : VarysRead w A n L) (hf : ∀ y ∈ L, VaryFits y.v) (hn : n ≤ 10) (hx : VaryReads w x) (hxf : VaryFits x.v) (hck : checkV L = 0) :
    Calls Tryz.prog 61 #[.slice A n c, x.val] w (SampPost (L.map (·.v)) x.v w) := by
  obtain ⟨P, hP⟩ : ∃ P, P = SampPost (L.map (·.v)) x.v w := ⟨_, rfl⟩
  rw [← hP]
  have HP := Lib.hid hP
  clear hP
  obtain ⟨i0, hi0, hz0, hz1, hz2⟩ := info_parts infSlH
  have HI := Lib.hid (And.intro hi0 (And.intro hz0 (And.intro hz1 hz2)))
  have cO := fun (W : World) (hb : Below w.heap.size w W) => of_any24 A n c L x.v.header W (hL.keep hb) (by omega)
  have hof := of_at hck x.v.header
  generalize ofV L x.v.header = ov at *
  have HO := Lib.hid cO; have HOF := Lib.hid hof; have HL := Lib.hid hL; have HF := Lib.hid hf; have HX := Lib.hid hx; have HXF := Lib.hid hxf
  have hvl := hxf.n
  clear hi0 hz0 hz1 hz2 cO hof hL hf hx hxf hck
  rw [VaryM.val_eq]
  go_enter Tryz.func61, Tryz.ntmps61
  go_upto_region 1 with fail
  generalize hw0 : World.alloc _ _ = w0
  have hS : Box1 w0 w.heap.size 83 #[.string x.v.header, .slice x.A x.v.values.length x.c, .string x.v.dflt] := by rw [← hw0]; exact heap_alloc_new w _
  have hbw : Below w.heap.size w w0 := by rw [← hw0]; exact balloc (Below.refl _ _) _
  have hs0 : w.heap.size + 1 ≤ w0.heap.size := by rw [← hw0]; simp
  clear hw0
  have c0 : w0.cell? ⟨w.heap.size, 0, none⟩ = some (.string x.v.header) := hS.cell rfl
  have c1 : w0.cell? ⟨w.heap.size, 1, none⟩ = some (.slice x.A x.v.values.length x.c) := hS.cell rfl
  go_upto_if 17 with (go_at_call 115; refine (HO.out _ hbw).mono ?_; rintro e w2 ⟨rfl, hb2⟩)
  have hS2 := hS.keep hb2
  have hbw2 := bstep hbw hb2
  have hs2 : w.heap.size + 1 ≤ w2.heap.size := by have := hb2.size; omega
  clear c0 c1 hS hbw hb2
  have c1 : w2.cell? ⟨w.heap.size, 1, none⟩ = some (.slice x.A x.v.values.length x.c) := hS2.cell rfl
  have HS2 := Lib.hid hS2
  clear hS2
  go_cut [5] (fun v wx => ∃ S d zs, v = .slice S zs.length d ∧ Hid (Reads wx 1 S zs.length (zs.map .string)) ∧ Hid (ValsOf L x.v zs) ∧ zs.length ≤ 20 ∧ Below w2.heap.size w2 wx)
  case first =>
    rcases HOF.out with ⟨rfl, hno⟩ | ⟨j, y, rfl, hj, hyh, hun⟩
    · have hvals : ValsOf L x.v x.v.values := fun z => ⟨.inl, fun h => h.elim id (fun ⟨u, hu, e, _⟩ => by
        obtain ⟨m, hm, rfl⟩ := List.mem_map.1 hu
        exact absurd e (hno m hm))⟩
      clear hno HOF
      go_wp2_with fail
      go_meet
      exact ⟨x.A, x.c, x.v.values, rfl, Lib.hid (Reads.keep HX.out hbw2), Lib.hid hvals, by omega, Below.refl _ _⟩
    · have hym := List.mem_of_getElem? hj
      obtain ⟨hyr, b, o, rfl, hcell⟩ := (HL.out.keep hbw2).at_ hj
      have hyf := HF.out y hym
      have cU := union_any x.A x.v.values.length x.c y.A y.v.values.length y.c x.v.values y.v.values w2 (Reads.keep HX.out hbw2) hyr (by omega) (by have := hyf.n; omega)
      have hvals : ∀ zs : List ByteArray, (∀ z : ByteArray, z ∈ zs ↔ z ∈ x.v.values ∨ z ∈ y.v.values) → ValsOf L x.v zs := fun zs h z => by
        rw [h z]
        constructor
        · rintro (h1 | h1)
          · exact .inl h1
          · exact .inr ⟨y.v, List.mem_map.2 ⟨y, hym, rfl⟩, hyh, h1⟩
        · rintro (h1 | ⟨u, hu, e, h1⟩)
          · exact .inl h1
          · obtain ⟨m, hm, rfl⟩ := List.mem_map.1 hu
            rw [hun m hm e] at h1
            exact .inr h1
      have hyn := hyf.n
      have hjn : j < n := by have := (List.getElem?_eq_some_iff.1 hj).1; have := HL.out.len; omega
      have hk0 : (0 : Int) ≤ (j : Int) := by omega
      have hk1 : (j : Int) < (n : Int) := by omega
      have c5 : w2.cell? ⟨b, o + j * 3 + 1, none⟩ = some (.slice y.A y.v.values.length y.c) := hcell 1 _ rfl
      have HU := Lib.hid cU; have HV := Lib.hid hvals
      clear cU hvals hun hyh hyf hyr hcell hj hym HOF
      go_wp2_with (go_at_call 116; refine HU.out.mono ?_; rintro e w3 ⟨hb3, S, d, zs, rfl, hr3, hz3, hl3⟩; have HR3 := Lib.hid hr3; have HZ3 := Lib.hid hz3; clear hr3 hz3)
      go_meet
      exact ⟨S, d, zs, rfl, HR3, Lib.hid (HV.out zs HZ3.out), by omega, hb3⟩
  case rest =>
    obtain ⟨S, d, zs, rfl, HR, HZ, hzl, hbc⟩ := hcut
    have hbr := bstep hbw2 hbc
    have hsr : w.heap.size + 1 ≤ wc.heap.size := by have := hbc.size; omega
    have HB := Lib.hid (HS2.out.keep hbc)
    clear c1 HS2 HOF HO hbw2 hbc hs2 hs0
    have hown0 : wc.ownsRow wc.heap.size 23 1 (.slice none 0 0) 0 (([] : List SampM).flatMap SampM.cells) := World.ownsRow_nil _ _ _ _
    have HO0 := Lib.hid hown0
    clear hown0
    have hm0 : ([] : List SampM).map (·.h) = (zs.take 0).map (oneH x.v.header) := rfl
    have HM0 := Lib.hid hm0
    clear hm0
    go_wp2_with fail
    go_loopw [7, 27] (fun ov iv wr => ∃ (k : Nat) (B : Option Addr) (q : Nat) (M : List SampM), k ≤ zs.length ∧ iv = .int .i64 k ∧ sampO ov k B q ∧ Hid (wr.ownsRow wc.heap.size 23 1 (.slice B k q) k (M.flatMap SampM.cells)) ∧ Hid (M.map (·.h) = (zs.take k).map (oneH x.v.header)) ∧ Hid (∀ m ∈ M, SampReads wr m) ∧ Hid (Box1 wr w.heap.size 83 #[.string x.v.header, .slice x.A x.v.values.length x.c, .string x.v.dflt]) ∧ Below wc.heap.size wc wr) (fun _ iv _ => zs.length - (intOf iv).toNat)
    case atStart => exact ⟨0, none, 0, [], by omega, rfl, rfl, HO0, HM0, Lib.hid (fun m hm => by cases hm), HB, Below.refl _ _⟩
    case round =>
      obtain ⟨k, B, q, M, hk, rfl, hov, HO, HM, HE, HBr, hb⟩ := hrel
      unfold sampO at hov
      subst hov
      clear HO0 HM0 HB
      have hsz := hb.size
      by_cases hlt : k < zs.length
      · obtain ⟨y, hy⟩ : ∃ y, zs[k]? = some y := ⟨_, List.getElem?_eq_getElem hlt⟩
        have hRk : Reads wr 1 S zs.length (zs.map .string) := HR.out.keep hb
        obtain ⟨pb, po, rfl, hcell⟩ := hRk.2 (by omega)
        have c1 : wr.cell? ⟨pb, po + k, none⟩ = some (.string y) := hcell k _ (by simp [hy])
        have c0 : wr.cell? ⟨w.heap.size, 0, none⟩ = some (.string x.v.header) := HBr.out.cell rfl
        have hk0 : (0 : Int) ≤ (k : Int) := by omega
        have hk1 : (k : Int) < (zs.length : Int) := by omega
        have HY := Lib.hid hy
        clear hRk hcell hy
        go_wp2_with (at_builtin; refine wpList_append_own _ rfl _ _ 124 rfl wc.heap.size 23 i0 (.slice none 0 0) 1 24 Tryz.underlying124 HI.out.1 HI.out.2.1 HI.out.2.2.1 HI.out.2.2.2 rfl (by decide) _ _ _ rfl ((HO.out.alloc _).alloc _) ⟨wr.heap.size + 1, 0, none⟩ 1 1 [.slice (some ⟨wr.heap.size, 0, none⟩) 1 1] rfl rfl (cell_one_at _ _ _ _ (by simp)) (by simp [Value.oneCell']) (by unfold maxLen; omega) (by omega) (by simp; omega) ?_; intro v' w8 hown' hgrow _; obtain ⟨g', cap', rfl⟩ := ownsRow_succ hown')
        have hb8 : RowKit.Below wc.heap.size wr w8 := (((RowKit.Below.refl wc.heap.size wr).alloc (by omega) _).alloc (by simp; omega) _).grown hgrow (by simp; omega) (fun r e => ownsRow_block HO.out r e)
        have hs8 := hb8.size
        refine ⟨⟨k + 1, some ⟨g', 0, none⟩, cap', M ++ [⟨oneH x.v.header y, some ⟨wr.heap.size, 0, none⟩, 1⟩], by omega, by go_num, rfl, Lib.hid (by rw [List.flatMap_append]; exact hown'), Lib.hid (by rw [List.map_append, HM.out, List.take_add_one, HY.out, List.map_append]; rfl), Lib.hid (fun m hm => ?_), Lib.hid ((hb8.block _ (by omega)).trans HBr.out), hb.trans hb8⟩, by simp [intOf]; omega⟩
        rcases List.mem_append.1 hm with hm | hm
        · exact ((HE.out m hm).keep (balloc (balloc (Below.refl _ _) _) _)).grown ((HO.out.alloc _).alloc _) hgrow
        · rw [List.mem_singleton.1 hm]
          exact (samp_new wr x.v.header y _).grown ((HO.out.alloc _).alloc _) hgrow
      · obtain rfl : k = zs.length := by omega
        go_wp2_with (at_builtin; refine wpList_append_own _ rfl _ _ 124 rfl wc.heap.size 23 i0 (.slice none 0 0) 1 24 Tryz.underlying124 HI.out.1 HI.out.2.1 HI.out.2.2.1 HI.out.2.2.2 rfl (by decide) _ _ _ rfl (HO.out.alloc _) ⟨wr.heap.size, 0, none⟩ 1 1 [.slice none 0 0] rfl rfl (cell_one_at _ _ _ _ (by simp)) (by simp [Value.oneCell']) (by unfold maxLen; omega) (by omega) (by simp; omega) ?_; intro v' w8 hown' hgrow _; obtain ⟨g', cap', rfl⟩ := ownsRow_succ hown')
        have hb8 : RowKit.Below wc.heap.size wr w8 := ((RowKit.Below.refl wc.heap.size wr).alloc (by omega) _).grown hgrow (by simp; omega) (fun r e => ownsRow_block HO.out r e)
        have hml : M.length = zs.length := by
          have := congrArg List.length HM.out
          rw [List.take_length] at this
          simpa using this
        have hLl : (M ++ [(⟨[], none, 0⟩ : SampM)]).length = zs.length + 1 := by simp [hml]
        rw [HP.out]
        refine ⟨bstep hbr (hb.trans hb8), some ⟨g', 0, none⟩, cap', M ++ [⟨[], none, 0⟩], by rw [hLl]; rfl, ⟨rfl, ?_, fun m hm => ?_⟩, by omega, samples_spec HZ.out (by rw [List.map_append, HM.out, List.take_length]; rfl)⟩
        · rw [hLl, List.flatMap_append]
          exact Reads.of_own hown'
        · rcases List.mem_append.1 hm with hm | hm
          · exact ((HE.out m hm).keep (balloc (Below.refl _ _) _)).grown (HO.out.alloc _) hgrow
          · rw [List.mem_singleton.1 hm]
            exact samp_nil _
end Go.Proofs.YtmlhecjhjjlhfaaGreatDoor
namespace Go.Proofs.YtmlhecjhjjlhfaaGreatDoor
open Go.RowKit Go.Sort
set_option linter.unusedVariables false
set_option linter.unusedSimpArgs false
set_option maxRecDepth 100000
theorem map_some_inj : ∀ (l : List (Option Pat)) (xs ys : List Pat), l = xs.map some → l = ys.map some → xs = ys
  | _, [], [], _, _ => rfl
  | _, [], _ :: _, h1, h2 => by rw [h1] at h2; simp at h2
  | _, _ :: _, [], h1, h2 => by rw [h1] at h2; simp at h2
  | _, x :: xs, y :: ys, h1, h2 => by
    rw [h1] at h2
    simp only [List.map_cons, List.cons.injEq, Option.some.injEq] at h2
    rw [h2.1, map_some_inj (xs.map some) xs ys rfl h2.2]
theorem gap_is {p : ByteArray} {bs : List ByteArray} {s : ByteArray} {is : Bool} {x : Pat} {ys : List Pat} (h : GapPost p bs s is) (hx : compileB p = some x) (hb : bs.map compileB = ys.map some) : is = (gapN x ys).isSome := by
  obtain ⟨x', ys', hx', hb', h⟩ := h
  have e1 : x' = x := Option.some.inj (hx'.symm.trans hx)
  have e2 := map_some_inj _ _ _ hb' hb
  subst e1; subst e2
  rcases h with ⟨h, h2, _⟩ | ⟨m, c, ws, h, h2, _⟩
  · rw [h, h2]; rfl
  · rw [h, h2]; rfl
theorem gap_text {p : ByteArray} {bs : List ByteArray} {s : ByteArray} {x : Pat} {ys : List Pat} {m : Nat} (h : GapPost p bs s true) (hx : compileB p = some x) (hb : bs.map compileB = ys.map some) (hg : gapN x ys = some m) : ∃ c ws, s = joinS (c :: ws) ∧ Exam (partsOf ys) x m c ws := by
  obtain ⟨x', ys', hx', hb', h⟩ := h
  have e1 : x' = x := Option.some.inj (hx'.symm.trans hx)
  have e2 := map_some_inj _ _ _ hb' hb
  subst e1; subst e2
  rcases h with ⟨_, h2, _⟩ | ⟨m', c, ws, h, _, h3, h4⟩
  · cases h2
  · have e3 : m' = m := Option.some.inj (h.symm.trans hg)
    subst e3
    exact ⟨c, ws, h3, h4⟩
def xTail : Pat := ⟨⟨0, (⟨#[97, 99, 109, 101]⟩ : ByteArray)⟩, [], true⟩
def xStar : Pat := ⟨⟨0, (⟨#[97, 99, 109, 101]⟩ : ByteArray)⟩, [⟨2, ⟨#[]⟩⟩], false⟩
def xOne : Pat := ⟨⟨0, (⟨#[97, 99, 109, 101]⟩ : ByteArray)⟩, [], false⟩
def xStars : Pat := ⟨⟨0, (⟨#[97, 99, 109, 101]⟩ : ByteArray)⟩, [⟨2, ⟨#[]⟩⟩], true⟩
def xCss : Pat := ⟨⟨0, (⟨#[97, 99, 109, 101]⟩ : ByteArray)⟩, [⟨1, (⟨#[46, 99, 115, 115]⟩ : ByteArray)⟩], false⟩
def xA : Pat := ⟨⟨0, (⟨#[97, 99, 109, 101]⟩ : ByteArray)⟩, [⟨0, (⟨#[97]⟩ : ByteArray)⟩], false⟩
theorem cTa : compileB (⟨#[97, 99, 109, 101, 47, 42, 42]⟩ : ByteArray) = some xTail := by kernel_rfl
theorem cSt : compileB (⟨#[97, 99, 109, 101, 47, 42]⟩ : ByteArray) = some xStar := by kernel_rfl
theorem cOn : compileB (⟨#[97, 99, 109, 101]⟩ : ByteArray) = some xOne := by kernel_rfl
theorem cSts : compileB (⟨#[97, 99, 109, 101, 47, 42, 47, 42, 42]⟩ : ByteArray) = some xStars := by kernel_rfl
theorem cCs : compileB (⟨#[97, 99, 109, 101, 47, 42, 46, 99, 115, 115]⟩ : ByteArray) = some xCss := by kernel_rfl
theorem cAa : compileB (⟨#[97, 99, 109, 101, 47, 97]⟩ : ByteArray) = some xA := by kernel_rfl
theorem g1 {s : ByteArray} {is : Bool} (h : GapPost (⟨#[97, 99, 109, 101, 47, 42, 42]⟩ : ByteArray) [(⟨#[97, 99, 109, 101]⟩ : ByteArray), (⟨#[97, 99, 109, 101, 47, 42]⟩ : ByteArray), (⟨#[97, 99, 109, 101, 47, 42, 47, 42, 42]⟩ : ByteArray)] s is) : is = false := by
  rw [gap_is (x := xTail) (ys := [xOne, xStar, xStars]) h cTa (by rw [List.map_cons, List.map_cons, List.map_cons, cOn, cSt, cSts]; rfl)]
  decide +kernel
theorem g2 {s : ByteArray} {is : Bool} (h : GapPost (⟨#[97, 99, 109, 101, 47, 42, 42]⟩ : ByteArray) [(⟨#[97, 99, 109, 101, 47, 42]⟩ : ByteArray), (⟨#[97, 99, 109, 101, 47, 42, 47, 42, 42]⟩ : ByteArray)] s is) : is = true ∧ s = (⟨#[97, 99, 109, 101]⟩ : ByteArray) := by
  have hb : [(⟨#[97, 99, 109, 101, 47, 42]⟩ : ByteArray), (⟨#[97, 99, 109, 101, 47, 42, 47, 42, 42]⟩ : ByteArray)].map compileB = [xStar, xStars].map some := by rw [List.map_cons, List.map_cons, cSt, cSts]; rfl
  have h1 : is = true := by
    rw [gap_is (x := xTail) (ys := [xStar, xStars]) h cTa hb]
    decide +kernel
  subst h1
  obtain ⟨c, ws, rfl, he⟩ := gap_text (m := 0) h cTa hb (by decide +kernel)
  refine ⟨rfl, ?_⟩
  have hw : ws = [] := List.eq_nil_of_length_eq_zero he.len
  subst hw
  rcases he.cust with ⟨_, h2⟩ | ⟨h2, _⟩
  · rw [h2]; decide +kernel
  · exact absurd rfl h2
theorem g3 {s : ByteArray} {is : Bool} (h : GapPost (⟨#[97, 99, 109, 101, 47, 42]⟩ : ByteArray) [(⟨#[97, 99, 109, 101, 47, 42, 46, 99, 115, 115]⟩ : ByteArray), (⟨#[97, 99, 109, 101, 47, 97]⟩ : ByteArray)] s is) : is = true ∧ matchB (⟨#[97, 99, 109, 101, 47, 42]⟩ : ByteArray) s = true ∧ matchB (⟨#[97, 99, 109, 101, 47, 42, 46, 99, 115, 115]⟩ : ByteArray) s = false ∧ (s.toList == ((⟨#[97, 99, 109, 101, 47, 97]⟩ : ByteArray) : ByteArray).toList) = false := by
  have hb : [(⟨#[97, 99, 109, 101, 47, 42, 46, 99, 115, 115]⟩ : ByteArray), (⟨#[97, 99, 109, 101, 47, 97]⟩ : ByteArray)].map compileB = [xCss, xA].map some := by rw [List.map_cons, List.map_cons, cCs, cAa]; rfl
  have h1 : is = true := by
    rw [gap_is (x := xStar) (ys := [xCss, xA]) h cSt hb]
    decide +kernel
  subst h1
  obtain ⟨h2, h3⟩ := gap_found h
  refine ⟨rfl, h2, h3 _ (by simp), ?_⟩
  cases he : (s.toList == ((⟨#[97, 99, 109, 101, 47, 97]⟩ : ByteArray) : ByteArray).toList)
  · rfl
  · rw [beq_iff_eq, Lib.toList_data, Lib.toList_data] at he
    have hs : s = (⟨#[97, 99, 109, 101, 47, 97]⟩ : ByteArray) := bytes_ext he
    have h4 := h3 (⟨#[97, 99, 109, 101, 47, 97]⟩ : ByteArray) (by simp)
    rw [hs] at h4
    have h5 : matchB (⟨#[97, 99, 109, 101, 47, 97]⟩ : ByteArray) (⟨#[97, 99, 109, 101, 47, 97]⟩ : ByteArray) = true := by decide +kernel
    rw [h5] at h4
    cases h4
def mkC (al : ByteArray) : CondV := ⟨0, 1099511627777, al, [], [], [], 0⟩
def mkR (nm pt : ByteArray) (ts : List ByteArray) (T : Option Addr) (c : Nat) (al : ByteArray) : RuleM := ⟨⟨nm, pt, ts, 0, 0, 0, 0, [], mkC al, false, 0, ⟨#[]⟩⟩, T, c, none, 0, [], ⟨none, 0, none, 0, none, 0⟩⟩
def rA (T : Option Addr) : RuleM := mkR (⟨#[111, 110, 101]⟩ : ByteArray) (⟨#[97, 99, 109, 101, 47, 42, 42]⟩ : ByteArray) [(⟨#[104, 111, 116]⟩ : ByteArray)] T 1 ⟨#[]⟩
def rB (T : Option Addr) : RuleM := mkR (⟨#[116, 119, 111]⟩ : ByteArray) (⟨#[97, 99, 109, 101, 47, 97]⟩ : ByteArray) [(⟨#[104, 111, 116]⟩ : ByteArray), (⟨#[110, 101, 119]⟩ : ByteArray)] T 2 ⟨#[]⟩
def rC : RuleM := mkR (⟨#[116, 104, 114, 101, 101]⟩ : ByteArray) (⟨#[97, 99, 109, 101, 47, 97]⟩ : ByteArray) [] none 0 (⟨#[97, 99, 109, 101, 47, 98]⟩ : ByteArray)
def rL (T U : Option Addr) : List RuleM := [rA T, rB U, rC]
theorem vA : validR (rA none).r = true := by decide +kernel
theorem vB : validR (rB none).r = true := by decide +kernel
theorem vC : validR rC.r = true := by decide +kernel
theorem vL (T U : Option Addr) : validL (rL T U) = true := by
  have h1 : ruleOkB (rA T) = true := by
    unfold ruleOkB
    rw [show validR (rA T).r = true from vA, show checkV (rA T).L = 0 from rfl]; rfl
  have h2 : ruleOkB (rB U) = true := by
    unfold ruleOkB
    rw [show validR (rB U).r = true from vB, show checkV (rB U).L = 0 from rfl]; rfl
  have h3 : ruleOkB rC = true := by
    unfold ruleOkB
    rw [vC, show checkV rC.L = 0 from rfl]; rfl
  unfold validL rL
  simp only [List.all_cons, List.all_nil, h1, h2, h3]
  rfl
theorem tA : tagsR [(⟨#[104, 111, 116]⟩ : ByteArray)] = ((⟨#[104, 111, 116]⟩ : ByteArray), 0) := by decide +kernel
theorem tB : (tagsR [(⟨#[104, 111, 116]⟩ : ByteArray), (⟨#[110, 101, 119]⟩ : ByteArray)]).2 = 0 := tags_few (fun p hp => by
  have h : [(⟨#[104, 111, 116]⟩ : ByteArray), (⟨#[110, 101, 119]⟩ : ByteArray)].all isNameB = true := by decide +kernel
  exact List.all_eq_true.1 h p hp) (by decide)
theorem t0 : (tagsR []).2 = 0 := by decide +kernel
theorem bB (T U : Option Addr) : befK (rL T U) [(⟨#[104, 111, 116]⟩ : ByteArray), (⟨#[110, 101, 119]⟩ : ByteArray)] 1 = [(⟨#[97, 99, 109, 101, 47, 42, 42]⟩ : ByteArray)] := by
  have : befK (rL none none) [(⟨#[104, 111, 116]⟩ : ByteArray), (⟨#[110, 101, 119]⟩ : ByteArray)] 1 = [(⟨#[97, 99, 109, 101, 47, 42, 42]⟩ : ByteArray)] := by decide +kernel
  exact this
theorem bC (T U : Option Addr) : befK (rL T U) [] 2 = [] := by
  have : befK (rL none none) [] 2 = [] := by decide +kernel
  exact this
theorem gs1 {s : ByteArray} {g : Bool} (h : GapPost (⟨#[97, 99, 109, 101, 47, 97]⟩ : ByteArray) [(⟨#[97, 99, 109, 101, 47, 42, 42]⟩ : ByteArray)] s g) : g = false := by
  rw [gap_is (x := xA) (ys := [xTail]) h cAa (by rw [List.map_cons, cTa]; rfl)]
  decide +kernel
theorem gs2 {s : ByteArray} {g : Bool} (h : GapPost (⟨#[97, 99, 109, 101, 47, 97]⟩ : ByteArray) [] s g) : g = true ∧ s = (⟨#[97, 99, 109, 101, 47, 97]⟩ : ByteArray) := by
  have h1 : g = true := by
    rw [gap_is (x := xA) (ys := []) h cAa rfl]
    decide +kernel
  subst h1
  obtain ⟨c, ws, rfl, he⟩ := gap_text (x := xA) (ys := []) (m := 1) h cAa rfl (by decide +kernel)
  refine ⟨rfl, ?_⟩
  obtain ⟨w1, rfl⟩ : ∃ w1, ws = [w1] := by
    match ws, he.len with
    | [a], _ => exact ⟨a, rfl⟩
  have hc : c = (⟨#[97, 99, 109, 101]⟩ : ByteArray) := by
    rcases he.cust with ⟨_, h2⟩ | ⟨h2, _⟩
    · exact h2
    · exact absurd rfl h2
  have hw : w1 = (⟨#[97]⟩ : ByteArray) := by
    rcases he.fresh 0 ⟨0, (⟨#[97]⟩ : ByteArray)⟩ w1 rfl rfl with ⟨_, h2⟩ | ⟨h2, _⟩
    · exact h2
    · exact absurd rfl h2
  rw [hc, hw]
  decide +kernel
theorem gd0 {s : ByteArray} {g : Bool} (h : GapPost (⟨#[97, 99, 109, 101, 47, 42, 42]⟩ : ByteArray) [] s g) : g = true := by
  rw [gap_is (x := xTail) (ys := []) h cTa rfl]
  decide +kernel
end Go.Proofs.YtmlhecjhjjlhfaaGreatDoor
