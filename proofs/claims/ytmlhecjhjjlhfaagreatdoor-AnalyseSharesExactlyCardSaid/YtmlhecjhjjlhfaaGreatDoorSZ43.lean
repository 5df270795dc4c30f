/- variant.key. -/
import Derived.Test.YtmlhecjhjjlhfaaGreatDoorSZ41
import Derived.Test.YtmlhecjhjjlhfaaGreatDoorSZ39
import Derived.Test.YtmlhecjhjjlhfaaGreatDoorSZ34
import Derived.Test.YtmlhecjhjjlhfaaGreatDoorProg
import Derived.WalkKit
import Derived.WalkSpells
import Derived.WalkLawsBesides
import Derived.Below
import Derived.Deep.QuietTactic
import Derived.BigQuiet
import Derived.Lib.QuietBelow
import Derived.Lib.Strings
import Derived.Lib.Hide
import Derived.Deep.RegionWith
import Derived.Deep.RegionHeld3
import Derived.Lib.IndexBytes
import Derived.Test.YtmlhecjhjjlhfaaGreatDoorSZ37
import Derived.Test.YtmlhecjhjjlhfaaGreatDoorSZ42
namespace Go.Proofs.YtmlhecjhjjlhfaaGreatDoor
open Go.RowKit Go.Sort
set_option linter.unusedVariables false
set_option linter.unusedSimpArgs false
set_option maxRecDepth 100000
def kpB (v : VaryV) (x : ByteArray) : ByteArray := v.header ++ ⟨#[61]⟩ ++ toB (escL x.data.toList)
theorem kpB_data (v : VaryV) (x : ByteArray) : (kpB v x).data.toList = partV v x := by
  unfold kpB partV
  simp [toB]
theorem kpB_size (v : VaryV) (x : ByteArray) : (kpB v x).size ≤ v.header.size + 1 + 3 * x.size := by
  unfold kpB
  have h := escL_len x.data.toList
  rw [ByteArray.size_append, ByteArray.size_append, toB_size]
  have h1 : (⟨#[61]⟩ : ByteArray).size = 1 := rfl
  rw [← Lib.size_eq] at h
  omega
theorem join_most (c : UInt8) (M : Nat) : ∀ l : List (List UInt8), (∀ x ∈ l, x.length ≤ M) → (Lib.join l [c]).length ≤ l.length * (M + 1) := by
  have tl : ∀ l : List (List UInt8), (∀ x ∈ l, x.length ≤ M) → (Lib.joinTail [c] l).length ≤ l.length * (M + 1) := by
    intro l
    induction l with
    | nil => intro _; simp [Lib.joinTail]
    | cons x l ih =>
      intro h
      have h1 := h x (by simp)
      have h2 := ih fun y hy => h y (by simp [hy])
      have e : Lib.joinTail [c] (x :: l) = c :: (x ++ Lib.joinTail [c] l) := by simp [Lib.joinTail]
      rw [e, List.length_cons, List.length_append, List.length_cons, Nat.add_mul]
      omega
  intro l h
  cases l with
  | nil => simp [Lib.join]
  | cons x l =>
    have h1 := h x (by simp)
    have h2 := tl l fun y hy => h y (by simp [hy])
    rw [Lib.join_cons, List.length_append, List.length_cons, Nat.add_mul]
    omega
theorem mem_zip : ∀ (l : List VaryV) (xs : List ByteArray) (p : ByteArray), p ∈ List.zipWith kpB l xs → ∃ v ∈ l, ∃ x ∈ xs, p = kpB v x
  | [], _, p, h => by simp at h
  | _ :: _, [], p, h => by simp at h
  | v :: l, x :: xs, p, h => by
    rw [List.zipWith_cons_cons] at h
    rcases List.mem_cons.1 h with rfl | h
    · exact ⟨v, by simp, x, by simp, rfl⟩
    · obtain ⟨v', h1, x', h2, e⟩ := mem_zip l xs p h
      exact ⟨v', by simp [h1], x', by simp [h2], e⟩
def rowP (ps : List ByteArray) (n k : Nat) : List Value := (ps.take k).map .string ++ List.replicate (n - k) (.string ⟨#[]⟩)
theorem rowP_step (ps : List ByteArray) (n k : Nat) (p : ByteArray) (hk : k < n) (hp : ps[k]? = some p) : (rowP ps n k).set k (.string p) = rowP ps n (k + 1) := by
  have hl : ((ps.take k).map Value.string).length = k := by
    have := (List.getElem?_eq_some_iff.1 hp).1
    rw [List.length_map, List.length_take]; omega
  unfold rowP
  rw [List.set_append_right _ _ (by omega), hl, Nat.sub_self, show n - k = (n - (k + 1)) + 1 by omega, List.replicate_succ, List.set_cons_zero, List.take_add_one, hp, List.map_append]
  simp
theorem rowP_end (ps : List ByteArray) (n : Nat) (h : ps.length = n) : rowP ps n n = ps.map .string := by
  unfold rowP
  rw [Nat.sub_self, List.take_of_length_le (by omega)]
  simp
theorem rowP_zero (ps : List ByteArray) (n : Nat) : rowP ps n 0 = (madeCells (Value.string ⟨#[]⟩).cells (n * 1)).toList := by
  unfold rowP
  rw [Nat.mul_one, show (Value.string ⟨#[]⟩).cells = #[.string ⟨#[]⟩] from rfl, toList_madeCells_one]
  simp
structure KeS (w : World) (bx : Nat) (X : Array Value) (g n : Nat) (row : List Value) (W : World) : Prop where
  x : Box1 W bx 83 X
  o : W.ownsRow w.heap.size 9 1 (.slice (some ⟨g, 0, none⟩) n n) n row
  b : Below w.heap.size w W
theorem KeS.keep {w : World} {bx : Nat} {X : Array Value} {g n : Nat} {row : List Value} {W W' : World} (h : KeS w bx X g n row W) (hb : Below W.heap.size W W') : KeS w bx X g n row W' := ⟨h.x.keep hb, ownsRow_keep h.o hb, bstep h.b hb⟩
set_option maxHeartbeats 8000000 in
theorem vkey_any (A : Option Addr) (n c : Nat) (L : List VaryM) (B : Option Addr) (d : Nat) (xs : List ByteArray) (w : World) (hL : VarysRead w A n L) (hR : Reads w 1 B n (xs.map .string)) (hf : ∀ x ∈ L, VaryFits x.v) (hx : ∀ x ∈ xs, x.size ≤ 200) (hn : n ≤ 10) :
    Calls Tryz.prog 32 #[.slice A n c, .slice B n d] w (Ret w (.string (sepT 38 (List.zipWith kpB (L.map (·.v)) xs)))) := by
  have hl : L.length = n := hL.len
  have hxl : xs.length = n := by have := hR.1; simpa using this
  obtain ⟨i0, hi0, hz0, hz1, hz2⟩ := info_parts infStrW
  have HI := Lib.hid (And.intro hi0 (And.intro hz0 (And.intro hz1 hz2)))
  obtain ⟨ps, hps⟩ : ∃ ps, ps = List.zipWith kpB (L.map (·.v)) xs := ⟨_, rfl⟩
  rw [← hps]
  have hpl : ps.length = n := by rw [hps, List.length_zipWith, List.length_map]; omega
  have hpz : ∀ p ∈ ps, p.size ≤ 1000 := by
    intro p hp
    rw [hps] at hp
    obtain ⟨v, hv, x, hxm, rfl⟩ := mem_zip _ _ p hp
    obtain ⟨y, hy, rfl⟩ := List.mem_map.1 hv
    have h1 := kpB_size y.v x
    have h2 := hx x hxm
    have h3 := (hf y hy).h
    omega
  have hpk : ∀ (k : Nat) (y : VaryM) (x : ByteArray), L[k]? = some y → xs[k]? = some x → ps[k]? = some (kpB y.v x) := fun k y x h1 h2 => by
    rw [hps, List.getElem?_zipWith, List.getElem?_map, h1, h2]; rfl
  have HL := Lib.hid hL; have HR := Lib.hid hR; have HF := Lib.hid hf; have HX := Lib.hid hx; have HLN := Lib.hid hl; have HXL := Lib.hid hxl; have HPL := Lib.hid hpl; have HPZ := Lib.hid hpz; have HPK := Lib.hid hpk
  clear hi0 hz0 hz1 hz2 hL hR hf hx hl hxl hps hpl hpz hpk
  go_enter Tryz.func32, Tryz.ntmps32
  go_wp2_with (refine wpList_make_full _ rfl _ _ 32 rfl w.heap.size 9 i0 (.string ⟨#[]⟩) 1 Tryz.underlying32 HI.out.1 HI.out.2.1 HI.out.2.2.1 .i64 .i64 n n n rfl rfl rfl rfl (by rw [HI.out.2.2.2]; omega) (by unfold maxLen; omega) (by omega) ?_; intro w1 hown1 hgr1; have hb1 : Below w.heap.size w w1 := (Below.refl _ _).grown hgr1 (Nat.le_refl _) (fun r e => by cases e); have HOW := Lib.hid hown1; clear hgr1 hown1)
  have hown1 := HOW.out
  rw [← rowP_zero ps n] at hown1
  have HOW1 := Lib.hid hown1
  clear hown1 HOW
  go_loopw [13] (fun iv wr => ∃ k : Nat, k ≤ n ∧ iv = .int .i64 k ∧ Hid (wr.ownsRow w.heap.size 9 1 (.slice (some ⟨w.heap.size, 0, none⟩) n n) n (rowP ps n k)) ∧ Below w.heap.size w wr) (fun iv _ => n - (intOf iv).toNat)
  case atStart => exact ⟨0, by omega, rfl, HOW1, hb1⟩
  case round =>
    obtain ⟨k, hk, rfl, HO, hbr⟩ := hrel
    clear HOW1 hb1
    by_cases hlt : k < n
    · obtain ⟨y, hy⟩ : ∃ y, L[k]? = some y := ⟨_, List.getElem?_eq_getElem (by have := HLN.out; omega)⟩
      obtain ⟨x, hx⟩ : ∃ x, xs[k]? = some x := ⟨_, List.getElem?_eq_getElem (by have := HXL.out; omega)⟩
      have hpk := HPK.out k y x hy hx
      have hst := rowP_step ps n k _ hlt hpk
      have hxz := HX.out x (List.mem_of_getElem? hx)
      have hyz := (HF.out y (List.mem_of_getElem? hy)).h
      obtain ⟨_, b, o, rfl, hcell⟩ := (HL.out.keep hbr).at_ hy
      have hld := varyA_load wr b (o + k * 3) y hcell
      have hc0 : y.cells.toArray[0]? = some (.string y.v.header) := rfl
      have hone : y.cells.toArray.all (·.oneCell') = true := by rw [List.all_toArray]; rfl
      have hsz2 : y.cells.toArray.size = 3 := by rw [List.size_toArray, y.cells_len]
      have hi3 : (Tryz.prog.info? 83).map (·.size) = some y.cells.toArray.size := by rw [hsz2]; exact infVar
      have hsz : y.cells.toArray.size = (#[.string ⟨#[]⟩, .slice none 0 0, .string ⟨#[]⟩] : Array Value).size := by rw [hsz2]; rfl
      unfold VaryM.val at hld
      unfold kpB at hst
      generalize y.cells.toArray = X at *
      generalize y.v.header = hd at *
      have HLD := Lib.hid hld; have HC0 := Lib.hid hc0; have HON := Lib.hid hone; have HXS := Lib.hid hsz2; have HI3 := Lib.hid hi3; have HSZ := Lib.hid hsz; have HST := Lib.hid hst; have HXK := Lib.hid hx
      clear hld hc0 hone hsz2 hi3 hsz hcell hx hy hpk hst
      obtain ⟨bb, oo, u, hBe, hu, _⟩ := HR.out.at_ hlt
      subst hBe
      have hcx : ∀ W, Below w.heap.size w W → W.cell? ⟨bb, oo + k, none⟩ = some (.string x) := fun W hb => by
        obtain ⟨b', o', u', he, hu', hc⟩ := (HR.out.keep hb).at_ hlt
        injection he with he
        injection he with he1 he2
        subst he1; subst he2
        rw [List.getElem?_map, HXK.out] at hu'
        have : Value.string x = u' := Option.some.inj hu'
        rw [this]; exact hc
      have HCX := Lib.hid hcx
      clear hcx hu
      have hk0 : (0 : Int) ≤ (k : Int) := by omega
      have hk1 : (k : Int) < (n : Int) := by omega
      go_upto_region 5 with (first | (refine wpList_load_addr rfl 83 _ rfl ⟨b, o + k * 3, none⟩ (.agg X) rfl HLD.out ?_) | (refine wpList_store_row rfl 83 _ _ rfl wr.heap.size X rfl rfl _ #[.string ⟨#[]⟩, .slice none 0 0, .string ⟨#[]⟩] ((heap_alloc_new wr _).trans rfl) HI3.out HSZ.out.symm HON.out ?_; generalize hw6 : World.setRow _ _ _ = w6; have B6 : Box1 w6 wr.heap.size 83 X := (by rw [← hw6]; exact setRow_heap _ _ _ _ _ _ (heap_alloc_new wr _)); have hb6 : Below wr.heap.size wr w6 := (by rw [← hw6]; exact below_setRow ((Below.refl _ _).alloc (Nat.le_refl _) _) (Nat.le_refl _) _); clear hw6))
      have hks : KeS w wr.heap.size X w.heap.size n (rowP ps n k) w6 := ⟨B6, ownsRow_keep HO.out hb6, bstep hbr hb6⟩
      have HB := Lib.hid hks
      have hes := escaped_any x
      have hez : (toB (escL x.data.toList)).size ≤ 600 := by
        have := escL_len x.data.toList
        rw [← Lib.size_eq] at this
        rw [toB_size]; omega
      obtain ⟨bx, hbx⟩ : ∃ bx, bx = wr.heap.size := ⟨_, rfl⟩
      rw [← hbx] at HB
      rw [← hbx]
      have HES := Lib.hid hes
      clear B6 hb6 hks HO hes hbx HLD HON HI3 HSZ HPK HF HX HL
      refine wp_det 12 (by kernel_rfl) (by kernel_rfl) (by kernel_rfl) (fun i => [.slice (some ⟨w.heap.size, 0, none⟩) n n, .int .i64 k, .pointer (some ⟨bx, 0, none⟩), .string hd, .string (hd ++ ⟨#[61]⟩), .slice (some ⟨bb, oo, none⟩) n d, .int .i64 k, .pointer (some ⟨bb, oo + k, none⟩), .string x, .string (toB (escL x.data.toList)), .string (hd ++ ⟨#[61]⟩ ++ toB (escL x.data.toList)), .pointer (some ⟨w.heap.size, k, none⟩)].getD i undef) (KeS w bx X w.heap.size n (rowP ps n k)) (HB.out.keep (Below.drew (Below.refl _ _))) (fun _ _ h hb => h.keep hb) ?_ ?_
      · simp only [putL, List.take_succ_cons, List.take_zero, List.drop_succ_cons, List.drop_zero, Act.put, List.setIfInBounds_toArray, List.set_cons_succ, List.set_cons_zero, List.getD_cons_zero, List.getD_cons_succ]
        refine ⟨fun W hS => ?_, fun W hS => ?_, fun W hS => ?_, fun W hS => ?_, fun W hS => ?_, fun W hS => ?_, fun W hS => ?_, fun W hS => ?_, fun W hS => ?_, fun W hS => ?_, fun W hS => ?_, fun W hS => ?_, trivial⟩
        all_goals
          have h0 := hS.x.cell HC0.out
          have hcW := HCX.out W hS.b
          go_wp2_with (go_at_call 74; refine (HES.out _ (by omega)).mono ?_; rintro e w2 ⟨rfl, hb2⟩)
          all_goals first
            | exact ⟨rfl, rfl, belB⟩
            | (exfalso; omega)
      intro w9 hS9
      have hc9 : w9.cell? ⟨w.heap.size, k, none⟩ = some (.string ⟨#[]⟩) := by
        rw [hS9.o.cellAt k (by omega)]
        unfold rowP
        have hlk : ((ps.take k).map Value.string).length = k := by rw [List.length_map, List.length_take]; have := HPL.out; omega
        rw [List.getElem?_append_right (by omega), hlk, Nat.sub_self, List.getElem?_replicate, if_pos (by omega)]
      have hf9 := hS9.o.frozenAt k
      have HS9 := Lib.hid hS9
      clear hS9
      simp only [putL, List.take_succ_cons, List.take_zero, List.drop_succ_cons, List.drop_zero, Act.put, List.setIfInBounds_toArray, List.set_cons_succ, List.set_cons_zero, List.getD_cons_zero, List.getD_cons_succ]
      go_wp2
      refine ⟨⟨k + 1, by omega, by go_num, ?_, HS9.out.b.setCell (p := ⟨w.heap.size, k, none⟩) (Nat.le_refl _) _⟩, by simp [intOf]; omega⟩
      have hfin := (HS9.out.o.stored k (.string (hd ++ ⟨#[61]⟩ ++ toB (escL x.data.toList)))).1
      rw [HST.out] at hfin
      exact Lib.hid hfin
    · obtain rfl : k = n := by omega
      have hown := HO.out
      rw [rowP_end ps k HPL.out] at hown
      have hj := sep_any 38 _ k k ps wr _ hown (by
        have := join_most 38 1000 (ps.map (·.data.toList)) (fun x hx => by
          obtain ⟨p, hp, rfl⟩ := List.mem_map.1 hx
          rw [← Lib.size_eq]; exact HPZ.out p hp)
        rw [List.length_map, HPL.out] at this
        omega)
      have HJ := Lib.hid hj
      clear hj hown HO
      go_wp2_with (go_at_call 75; refine (HJ.out (by omega)).mono ?_; rintro e w4 ⟨rfl, hb4⟩)
      go_ret
      exact ⟨rfl, bstep hbr hb4⟩
end Go.Proofs.YtmlhecjhjjlhfaaGreatDoor
namespace Go.Proofs.YtmlhecjhjjlhfaaGreatDoor
open Go.RowKit Go.Sort
set_option linter.unusedVariables false
set_option linter.unusedSimpArgs false
set_option maxRecDepth 100000
theorem find_idx {α : Type} (p : α → Bool) : ∀ (l : List α) (b : Nat), (idxA p l b = -1 ∧ l.find? p = none) ∨ ∃ j x, idxA p l b = ((b + j : Nat) : Int) ∧ l[j]? = some x ∧ l.find? p = some x
  | [], b => .inl ⟨rfl, rfl⟩
  | y :: l, b => by
    rw [idxA, List.find?_cons]
    cases hy : p y
    · rw [if_neg (by decide)]
      rcases find_idx p l (b + 1) with ⟨h1, h2⟩ | ⟨j, x, h1, h2, h3⟩
      · exact .inl ⟨h1, h2⟩
      · exact .inr ⟨j + 1, x, by rw [h1]; congr 1; omega, by simpa using h2, h3⟩
    · rw [if_pos rfl]
      exact .inr ⟨0, y, by simp, rfl, rfl⟩
theorem value1_any (h : Hdr) (hd : ByteArray) (b : Nat) (w : World) (hc : w.cell? ⟨b, 0, none⟩ = some (.string hd)) : Calls Tryz.prog 72 #[h.val, .pointer (some ⟨b, 0, none⟩)] w (Ret w (.bool (h.name.toList == hd.toList))) := by
  unfold Hdr.val Hdr.cells
  have hb : b < w.heap.size := by
    rcases Nat.lt_or_ge b w.heap.size with h' | h'
    · exact h'
    · simp [World.cell?, Array.getElem?_eq_none h'] at hc
  have hca := cell_keep (balloc (Below.refl _ _) (.cells #[.string h.name, .string h.value] 134)) hc
  go_enter Tryz.func72, Tryz.ntmps72
  go_wp2
  go_ret
  exact ⟨rfl, belB⟩
structure VlS (w : World) (X : Array Value) (HA : Option Addr) (n : Nat) (H : List Hdr) (x : VaryM) (W : World) : Prop where
  p : Box1 W w.heap.size 83 X
  h : HdrsRead W HA n H
  v : VaryReads W x
  b : Below w.heap.size w W
theorem VlS.keep {w : World} {X : Array Value} {HA : Option Addr} {n : Nat} {H : List Hdr} {x : VaryM} {W W' : World} (h : VlS w X HA n H x W) (hb : Below W.heap.size W W') : VlS w X HA n H x W' := ⟨h.p.keep hb, h.h.keep hb, VaryReads.keep h.v hb, bstep h.b hb⟩
set_option maxHeartbeats 8000000 in
theorem value_any (x : VaryM) (HA : Option Addr) (n c : Nat) (H : List Hdr) (w : World) (hH : HdrsRead w HA n H) (hV : VaryReads w x) (hn : n ≤ 1000) (hm : x.v.values.length ≤ 1000) :
    Calls Tryz.prog 31 #[x.val, .slice HA n c] w (Ret w (.string (valueV x.v H))) := by
  have hmf : ∀ (fn : Fn) (first cap : Array Value) (w : World), (Instr.makeFunc fn first cap).run Tryz.prog w = .ok (.func fn first cap) w := fun _ _ _ _ => rfl
  have cI := fun (W : World) (hc : W.cell? ⟨w.heap.size, 0, none⟩ = some (.string x.v.header)) (hh : HdrsRead W HA n H) => indexFuncHD1_any 72 (enters_of Tryz.func72 (by kernel_rfl) rfl) (.pointer (some ⟨w.heap.size, 0, none⟩)) (fun h => h.name.toList == x.v.header.toList) HA n c H W (fun h _ W' hb => value1_any h x.v.header w.heap.size W' (cell_keep hb hc)) hh (by omega)
  have hval : valueV x.v H = match H.find? (fun h => h.name.toList == x.v.header.toList) with
    | some h => if Lib.containsS x.v.values h.value then h.value else x.v.dflt
    | none => x.v.dflt := rfl
  have hfi := find_idx (fun h : Hdr => h.name.toList == x.v.header.toList) H 0
  generalize (fun h : Hdr => h.name.toList == x.v.header.toList) = p at *
  generalize valueV x.v H = V at *
  have hln := hH.len
  rw [VaryM.val_eq]
  have HI := Lib.hid cI; have HH := Lib.hid hH; have HVR := Lib.hid hV; have HLN := Lib.hid hln
  clear cI hH hV hln
  rcases hfi with ⟨h1, h2⟩ | ⟨j, h, h1, h2, h3⟩
  · rw [h2] at hval
    dsimp only at hval
    subst hval
    clear h2
    generalize idxA p H 0 = q at *
    subst h1
    go_enter Tryz.func31, Tryz.ntmps31
    go_upto_region 1 with fail
    generalize hw0 : World.alloc _ _ = w0
    have hS : VlS w #[.string x.v.header, .slice x.A x.v.values.length x.c, .string x.v.dflt] HA n H x w0 := by
      have hb := balloc (Below.refl _ w) (.cells #[.string x.v.header, .slice x.A x.v.values.length x.c, .string x.v.dflt] 83)
      rw [← hw0]
      exact ⟨heap_alloc_new w _, HH.out.keep hb, VaryReads.keep HVR.out hb, hb⟩
    clear hw0
    have c0 : w0.cell? ⟨w.heap.size, 0, none⟩ = some (.string x.v.header) := hS.p.cell rfl
    have hfi := HI.out w0 c0 hS.h
    have HFI2 := Lib.hid hfi
    clear c0 hfi
    go_upto_region 2 with (go_at_call 71; refine HFI2.out.mono ?_; rintro e w2 ⟨rfl, hb2⟩)
    have HS := Lib.hid (hS.keep hb2)
    clear hS hb2 HFI2 HI
    refine wp_det 12 (by kernel_rfl) (by kernel_rfl) (by kernel_rfl) (fun i => [.int .i64 (-1), .bool false, .bool false, undef, undef, undef, undef, undef, undef, undef, undef, .bool false].getD i undef) (VlS w #[.string x.v.header, .slice x.A x.v.values.length x.c, .string x.v.dflt] HA n H x) (HS.out.keep (Below.drew (Below.refl _ _))) (fun _ _ h hb => h.keep hb) ?_ ?_
    · simp only [putL, List.take_succ_cons, List.take_zero, List.drop_succ_cons, List.drop_zero, Act.put, List.setIfInBounds_toArray, List.set_cons_succ, List.set_cons_zero, List.getD_cons_zero, List.getD_cons_succ]
      refine ⟨fun W hS => ?_, fun W hS => ?_, fun W hS => ?_, fun W hS => ?_, fun W hS => ?_, fun W hS => ?_, fun W hS => ?_, fun W hS => ?_, fun W hS => ?_, fun W hS => ?_, fun W hS => ?_, fun W hS => ?_, trivial⟩
      all_goals
        go_wp2
        exact ⟨rfl, rfl, belB⟩
    intro w9 hS9
    have c2 : w9.cell? ⟨w.heap.size, 2, none⟩ = some (.string x.v.dflt) := hS9.p.cell rfl
    have hb9 := hS9.b
    clear hS9
    simp only [putL, List.take_succ_cons, List.take_zero, List.drop_succ_cons, List.drop_zero, Act.put, List.setIfInBounds_toArray, List.set_cons_succ, List.set_cons_zero, List.getD_cons_zero, List.getD_cons_succ]
    go_wp2
    go_ret
    exact ⟨rfl, hb9⟩
  · rw [h3] at hval
    dsimp only at hval
    rw [Nat.zero_add] at h1
    generalize idxA p H 0 = q at *
    subst h1
    have hjn : j < n := by have := (List.getElem?_eq_some_iff.1 h2).1; have := HLN.out; omega
    obtain ⟨_, hb0, ho, rfl, _⟩ := HH.out.at_ h2
    have cC := fun (W : World) (hv : VaryReads W x) => contains_any x.A x.v.values.length x.c x.v.values h.value W hv (by omega)
    obtain ⟨ct, hct⟩ : ∃ ct, ct = Lib.containsS x.v.values h.value := ⟨_, rfl⟩
    rw [← hct] at cC hval
    have HC := Lib.hid cC; have HV := Lib.hid hval; have H2 := Lib.hid h2
    have hcl : ∀ W, HdrsRead W (some ⟨hb0, ho, none⟩) n H → W.cell? ⟨hb0, ho + j * 2 + 1, none⟩ = some (.string h.value) := fun W hh => by
      obtain ⟨_, b', o', he, hc⟩ := hh.at_ H2.out
      injection he with he
      injection he with he1 he2
      subst he1; subst he2
      exact hc 1 _ rfl
    have HCL := Lib.hid hcl
    clear cC hval h2 h3 hct hcl
    have hj0 : (0 : Int) ≤ (j : Int) := by omega
    have hj1 : (j : Int) < (n : Int) := by omega
    go_enter Tryz.func31, Tryz.ntmps31
    go_upto_region 1 with fail
    generalize hw0 : World.alloc _ _ = w0
    have hS : VlS w #[.string x.v.header, .slice x.A x.v.values.length x.c, .string x.v.dflt] (some ⟨hb0, ho, none⟩) n H x w0 := by
      have hb := balloc (Below.refl _ w) (.cells #[.string x.v.header, .slice x.A x.v.values.length x.c, .string x.v.dflt] 83)
      rw [← hw0]
      exact ⟨heap_alloc_new w _, HH.out.keep hb, VaryReads.keep HVR.out hb, hb⟩
    clear hw0
    have c0 : w0.cell? ⟨w.heap.size, 0, none⟩ = some (.string x.v.header) := hS.p.cell rfl
    have hfi := HI.out w0 c0 hS.h
    have HFI2 := Lib.hid hfi
    clear c0 hfi
    go_upto_region 2 with (go_at_call 71; refine HFI2.out.mono ?_; rintro e w2 ⟨rfl, hb2⟩)
    have HS := Lib.hid (hS.keep hb2)
    clear hS hb2 HFI2 HI HH HVR HLN H2
    refine wp_det 12 (by kernel_rfl) (by kernel_rfl) (by kernel_rfl) (fun i => [.int .i64 (j : Int), .bool true, .bool true, .pointer (some ⟨w.heap.size, 1, none⟩), .slice x.A x.v.values.length x.c, .slice (some ⟨hb0, ho, none⟩) n c, .int .i64 (j : Int), .pointer (some ⟨hb0, ho + j * 2, none⟩), .pointer (some ⟨hb0, ho + j * 2 + 1, none⟩), .string h.value, .bool ct, .bool ct].getD i undef) (VlS w #[.string x.v.header, .slice x.A x.v.values.length x.c, .string x.v.dflt] (some ⟨hb0, ho, none⟩) n H x) (HS.out.keep (Below.drew (Below.refl _ _))) (fun _ _ h hb => h.keep hb) ?_ ?_
    · simp only [putL, List.take_succ_cons, List.take_zero, List.drop_succ_cons, List.drop_zero, Act.put, List.setIfInBounds_toArray, List.set_cons_succ, List.set_cons_zero, List.getD_cons_zero, List.getD_cons_succ]
      refine ⟨fun W hS => ?_, fun W hS => ?_, fun W hS => ?_, fun W hS => ?_, fun W hS => ?_, fun W hS => ?_, fun W hS => ?_, fun W hS => ?_, fun W hS => ?_, fun W hS => ?_, fun W hS => ?_, fun W hS => ?_, trivial⟩
      all_goals
        have c1 : W.cell? ⟨w.heap.size, 1, none⟩ = some (.slice x.A x.v.values.length x.c) := hS.p.cell rfl
        have c3 := HCL.out W hS.h
        go_wp2_with (go_at_call 73; refine (HC.out _ hS.v).mono ?_; rintro e w2 ⟨rfl, hb2⟩)
        exact ⟨rfl, rfl, belB⟩
    intro w9 hS9
    have c2 : w9.cell? ⟨w.heap.size, 2, none⟩ = some (.string x.v.dflt) := hS9.p.cell rfl
    have c3 := HCL.out w9 hS9.h
    have hb9 := hS9.b
    clear hS9
    cases ct
    · have hv := HV.out
      rw [if_neg (by decide)] at hv
      subst hv
      simp only [putL, List.take_succ_cons, List.take_zero, List.drop_succ_cons, List.drop_zero, Act.put, List.setIfInBounds_toArray, List.set_cons_succ, List.set_cons_zero, List.getD_cons_zero, List.getD_cons_succ]
      go_wp2
      go_ret
      exact ⟨rfl, hb9⟩
    · have hv := HV.out
      rw [if_pos rfl] at hv
      subst hv
      simp only [putL, List.take_succ_cons, List.take_zero, List.drop_succ_cons, List.drop_zero, Act.put, List.setIfInBounds_toArray, List.set_cons_succ, List.set_cons_zero, List.getD_cons_zero, List.getD_cons_succ]
      go_wp2
      go_ret
      exact ⟨rfl, hb9⟩
end Go.Proofs.YtmlhecjhjjlhfaaGreatDoor
namespace Go.Proofs.YtmlhecjhjjlhfaaGreatDoor
open Go.RowKit Go.Sort
set_option linter.unusedVariables false
set_option linter.unusedSimpArgs false
set_option maxRecDepth 100000
def shOk (L : List RuleM) (i : Int) : Bool := validL L && (decide (0 ≤ i) && decide (i < (L.length : Int)))
def ShRes (L : List RuleM) (i : Int) (s : ByteArray) (is : Bool) (er : Int) : Prop :=
  (shOk L i = false ∧ s = ⟨#[]⟩ ∧ is = false ∧ er = 1) ∨ (shOk L i = true ∧ er = 0 ∧ ∃ x, L[i.toNat]? = some x ∧ (((tagsR x.r.tags).2 ≠ 0 ∧ s = ⟨#[]⟩ ∧ is = true) ∨ ((tagsR x.r.tags).2 = 0 ∧ ∃ g, is = !g ∧ GapPost x.r.pat (befK L x.r.tags i.toNat) s g ∧ s.size ≤ 4096)))
theorem bef_comp {L : List RuleM} (hv : validL L = true) (ts : List ByteArray) (k : Nat) : ∃ ys : List Pat, (befK L ts k).map compileB = ys.map some := by
  refine all_comp _ (List.all_eq_true.2 fun q hq => ?_)
  unfold befK at hq
  obtain ⟨x, hx, rfl⟩ := List.mem_map.1 hq
  have hm := List.mem_of_mem_take (List.mem_filter.1 hx).1
  unfold validL at hv
  rw [Bool.and_eq_true, List.all_eq_true] at hv
  have h1 := hv.2 x hm
  unfold ruleOkB at h1
  rw [Bool.and_eq_true] at h1
  exact (rule_ok h1.1).pat
theorem bef_size {L : List RuleM} (hf : ∀ x ∈ L, RuleFits x.r) (ts : List ByteArray) (k : Nat) : ∀ q ∈ befK L ts k, q.size ≤ 300 := by
  intro q hq
  unfold befK at hq
  obtain ⟨x, hx, rfl⟩ := List.mem_map.1 hq
  have := (hf x (List.mem_of_mem_take (List.mem_filter.1 hx).1)).pat
  omega
theorem valid_at {L : List RuleM} (hv : validL L = true) {x : RuleM} (hx : x ∈ L) : RuleOk x.r ∧ checkV x.L = 0 := by
  unfold validL at hv
  rw [Bool.and_eq_true, List.all_eq_true] at hv
  have h1 := hv.2 x hx
  unfold ruleOkB at h1
  rw [Bool.and_eq_true, decide_eq_true_eq] at h1
  exact ⟨rule_ok h1.1, h1.2⟩
theorem gapB_any {A : Option Addr} {n c : Nat} {L : List RuleM} {w : World} (hv : validL L = true) (hf : ∀ x ∈ L, RuleFits x.r) (ts : List ByteArray) (k : Nat) (hk : k ≤ 10) (p : ByteArray) (hp : (compileB p).isSome = true) (hps : p.size ≤ 100000) (hE : Env w) (hT : Tab w) (B : Option Addr) (d : Nat) (hR : Reads w 1 B (befK L ts k).length ((befK L ts k).map .string)) :
    Calls Tryz.prog 36 #[.string p, .slice B (befK L ts k).length d] w fun e w' => ∃ s is, e = .returned (.tuple #[.string s, .bool is]) ∧ GapPost p (befK L ts k) s is ∧ s.size ≤ 4096 ∧ Below w.heap.size w w' := by
  obtain ⟨x, hx⟩ := Option.isSome_iff_exists.1 hp
  obtain ⟨ys, hy⟩ := bef_comp hv ts k
  exact gapT_any p x ys B _ d _ w hx hy hps hR (Nat.le_trans (befK_len L ts k) hk) (bef_size hf ts k) hE hT
set_option maxHeartbeats 8000000 in
theorem shadowed_any (A : Option Addr) (n c : Nat) (i : Int) (L : List RuleM) (w : World) (hL : RulesRead w A n L) (hf : ∀ x ∈ L, RuleFits x.r) (hc : ∀ x ∈ L, RuleCaps x) (hcap : n ≤ c) (hn : n ≤ 10) (hE : Env w) (hT : Tab w) :
    Calls Tryz.prog 13 #[.slice A n c, .int .i64 i] w fun e w' => ∃ s is er, e = .returned (.tuple #[.string s, .bool is, .int .i64 er]) ∧ ShRes L i s is er ∧ Below w.heap.size w w' := by
  have hlen := hL.len
  have cV := isValid_any A n c L w hL hf hc (by omega) hE
  have hbad : shOk L i = false → ShRes L i ⟨#[]⟩ false 1 := fun h => .inl ⟨h, rfl, rfl, rfl⟩
  have HBAD := Lib.hid hbad
  clear hbad
  cases hv : validL L
  · have hs := HBAD.out (by unfold shOk; rw [hv]; rfl)
    rw [hv] at cV
    have HV := Lib.hid cV; have HS := Lib.hid hs
    clear cV hs hv HBAD hL hf hc hE hT hlen
    go_enter Tryz.func13, Tryz.ntmps13
    go_wp2_with (go_at_call 25; refine HV.out.mono ?_; rintro e w2 ⟨rfl, hb2⟩)
    go_ret3
    exact ⟨_, _, _, rfl, HS.out, hb2⟩
  rw [hv] at cV
  have HV := Lib.hid cV
  clear cV
  by_cases hi0 : i < 0
  · have hs := HBAD.out (by unfold shOk; rw [hv, decide_eq_false (by omega)]; rfl)
    have d0 : decide (i < 0) = true := decide_eq_true hi0
    have HS := Lib.hid hs
    clear hs hv HBAD hL hf hc hE hT hlen
    go_enter Tryz.func13, Tryz.ntmps13
    go_wp2_with (go_at_call 25; refine HV.out.mono ?_; rintro e w2 ⟨rfl, hb2⟩)
    go_ret3
    exact ⟨_, _, _, rfl, HS.out, hb2⟩
  have d0 : decide (i < 0) = false := decide_eq_false hi0
  obtain ⟨k, rfl⟩ : ∃ k : Nat, i = (k : Int) := ⟨i.toNat, by omega⟩
  by_cases hkn : n ≤ k
  · have hs := HBAD.out (by unfold shOk; rw [hv, decide_eq_true (by omega), decide_eq_false (by omega)]; rfl)
    have d1 : decide ((n : Int) ≤ (k : Int)) = true := decide_eq_true (by omega)
    have HS := Lib.hid hs
    clear hs hv HBAD hL hf hc hE hT hlen
    go_enter Tryz.func13, Tryz.ntmps13
    go_wp2_with (go_at_call 25; refine HV.out.mono ?_; rintro e w2 ⟨rfl, hb2⟩)
    go_ret3
    exact ⟨_, _, _, rfl, HS.out, hb2⟩
  have d1 : decide ((n : Int) ≤ (k : Int)) = false := decide_eq_false (by omega)
  have hok : shOk L (k : Int) = true := by unfold shOk; rw [hv, decide_eq_true (by omega), decide_eq_true (by omega)]; rfl
  obtain ⟨x, hx⟩ : ∃ x, L[k]? = some x := ⟨_, List.getElem?_eq_getElem (by omega)⟩
  have hxm := List.mem_of_getElem? hx
  have hx2 : L[((k : Nat) : Int).toNat]? = some x := by rw [Int.toNat_natCast]; exact hx
  have cB := fun (W : World) (hb : Below w.heap.size w W) => befor_any A n c k L x W (hL.keep hb) hx (by omega) hcap hf
  have HOK := Lib.hid hok; have HX2 := Lib.hid hx2
  by_cases ht : (tagsR x.r.tags).2 = 0
  rotate_left
  · have cB2 : ∀ W, Below w.heap.size w W → Calls Tryz.prog 37 #[.slice A n c, .int .i64 (k : Int)] W (Ret W (.tuple #[.slice none 0 0, .bool false])) := fun W hb => (cB W hb).mono fun e w' h => by
      rcases h with ⟨hb', ⟨_, rfl⟩ | ⟨h, _⟩⟩
      · exact ⟨rfl, hb'⟩
      · exact absurd h ht
    have HB := Lib.hid cB2; have HT0 := Lib.hid ht
    clear cB cB2 ht hok hx hx2 hxm HBAD hL hf hc hE hT hlen hv
    go_enter Tryz.func13, Tryz.ntmps13
    go_wp2_with (first | (go_at_call 25; refine HV.out.mono ?_; rintro e w2 ⟨rfl, hb2⟩) | (go_at_call 37; refine (HB.out _ hb2).mono ?_; rintro e w3 ⟨rfl, hb3⟩))
    go_ret3
    exact ⟨_, _, _, rfl, .inr ⟨HOK.out, rfl, x, HX2.out, .inl ⟨HT0.out, rfl, rfl⟩⟩, bstep hb2 hb3⟩
  · obtain ⟨_, b, o, rfl, hcell⟩ := hL.at_ hx
    have cB2 : ∀ W, Below w.heap.size w W → Calls Tryz.prog 37 #[.slice (some ⟨b, o, none⟩) n c, .int .i64 (k : Int)] W (fun e w' => ∃ B d, e = .returned (.tuple #[.slice B (befK L x.r.tags k).length d, .bool true]) ∧ Reads w' 1 B (befK L x.r.tags k).length ((befK L x.r.tags k).map .string) ∧ Below W.heap.size W w') := fun W hb => (cB W hb).mono fun e w' h => by
      rcases h with ⟨hb', ⟨h, _⟩ | ⟨_, B, d, rfl, hr⟩⟩
      · exact absurd ht h
      · exact ⟨B, d, rfl, hr, hb'⟩
    have hpat := (valid_at hv hxm).1.pat
    have cG := fun (W : World) (hb : Below w.heap.size w W) (B : Option Addr) (d : Nat) hR => gapB_any (A := some ⟨b, o, none⟩) (n := n) (c := c) (w := W) hv hf x.r.tags k (by omega) x.r.pat hpat (by have := (hf x hxm).pat; omega) (hE.keep hb) (hT.keep hb) B d hR
    have hc1 : w.cell? ⟨b, o + k * 18 + 1, none⟩ = some (.string x.r.pat) := hcell 1 _ rfl
    have HB := Lib.hid cB2; have HT0 := Lib.hid ht; have HG := Lib.hid cG; have HC1 := Lib.hid hc1
    clear cB cB2 cG ht hok hx hx2 hxm HBAD hL hf hc hE hT hlen hv hcell hc1 hpat
    have hk0 : (0 : Int) ≤ (k : Int) := by omega
    have hk1 : (k : Int) < (n : Int) := by omega
    go_enter Tryz.func13, Tryz.ntmps13
    go_wp2_with (first | (go_at_call 25; refine HV.out.mono ?_; rintro e w2 ⟨rfl, hb2⟩) | (go_at_call 37; refine (HB.out _ hb2).mono ?_; rintro e w3 ⟨B, d, rfl, hr3, hb3⟩; have hb23 := bstep hb2 hb3; have z1 := cell_keep hb23 HC1.out; have HR3 := Lib.hid hr3; clear hr3) | (go_at_call 36; refine (HG.out _ hb23 _ _ HR3.out).mono ?_; rintro e w4 ⟨s, is, rfl, hpo, hsz, hb4⟩; have HPO := Lib.hid hpo; clear hpo))
    go_ret3
    exact ⟨_, _, _, rfl, .inr ⟨HOK.out, rfl, x, HX2.out, .inr ⟨HT0.out, is, rfl, by rw [Int.toNat_natCast]; exact HPO.out, hsz⟩⟩, bstep hb23 hb4⟩
end Go.Proofs.YtmlhecjhjjlhfaaGreatDoor
