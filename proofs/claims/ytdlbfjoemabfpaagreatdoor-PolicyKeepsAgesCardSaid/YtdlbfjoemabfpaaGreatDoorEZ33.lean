/- A message grows: Stream.Add. -/
import Derived.Test.YtdlbfjoemabfpaaGreatDoorEZ32
import Derived.Test.YtdlbfjoemabfpaaGreatDoorEZ31
import Derived.Test.YtdlbfjoemabfpaaGreatDoorProg
import Derived.WalkKit
import Derived.WalkSpells
import Derived.WalkLawsBesides
import Derived.Below
import Derived.Deep.QuietTactic
import Derived.BigQuiet
import Derived.Lib.QuietBelow
import Derived.Lib.Strings
import Derived.Lib.Hide
import Derived.Deep.RegionWith
import Derived.Deep.RegionHeld3
import Derived.Lib.IndexBytes
import Derived.Test.YtdlbfjoemabfpaaGreatDoorEZ29
import Derived.Test.YtdlbfjoemabfpaaGreatDoorEZ30
import Derived.Test.YtdlbfjoemabfpaaGreatDoorEZ16
import Derived.Lib.AppendStr
namespace Go.Proofs.YtdlbfjoemabfpaaGreatDoor
open Go.RowKit Go.Sort
set_option linter.unusedVariables false
set_option linter.unusedSimpArgs false
set_option maxRecDepth 100000
def nb (s : ByteArray) : List Nat := s.data.toList.map (·.toNat)
theorem nb_len (s : ByteArray) : (nb s).length = s.size := by
  unfold nb
  rw [List.length_map, Array.length_toList]; rfl
theorem nb_lt (s : ByteArray) : ∀ x ∈ nb s, x < 256 := by
  intro x hx
  obtain ⟨b, _, rfl⟩ := List.mem_map.1 hx
  exact b.toNat_lt
theorem txt_nb (s : ByteArray) : txtCells s = b8 (nb s) := by
  unfold txtCells b8 nb
  rw [List.map_map]; rfl
def stL (s : Sha.St) : List Nat := [s.a, s.b, s.c, s.d, s.e, s.f, s.g, s.h]
def strLH (s : Sha.St) (blk : List Nat) (n : Nat) : List Value := w32 (stL s) ++ (b8 blk ++ [.int .u64 (n : Int)])
theorem b8_len (l : List Nat) : (b8 l).length = l.length := by simp [b8]
theorem b8_app (a b : List Nat) : b8 (a ++ b) = b8 a ++ b8 b := by simp [b8]
theorem b8_take (a : List Nat) (k : Nat) : b8 (a.take k) = (b8 a).take k := by simp [b8]
theorem b8_drop (a : List Nat) (k : Nat) : b8 (a.drop k) = (b8 a).drop k := by simp [b8]
theorem b8_one (L : List Nat) : ∀ v ∈ b8 L, v.oneCell' = true := by
  intro v hv
  obtain ⟨_, _, rfl⟩ := List.mem_map.1 hv
  rfl
section
variable {s : Sha.St} {blk : List Nat} {n : Nat}
theorem stL_len (s : Sha.St) : (w32 (stL s)).length = 8 := rfl
theorem strLH_len (h : blk.length = 64) : (strLH s blk n).length = 73 := by
  unfold strLH
  rw [List.length_append, List.length_append, stL_len, b8_len, h]; rfl
theorem strL_blk (h : blk.length = 64) {j : Nat} (hj : j < 64) : (strLH s blk n)[8 + j]? = some (.int .u8 (blk.getD j 0 : Nat)) := by
  unfold strLH
  rw [List.getElem?_append_right (by rw [stL_len]; omega), stL_len, Nat.add_sub_cancel_left, List.getElem?_append_left (by rw [b8_len]; omega)]
  exact b8_at blk (by omega)
theorem strL_n (h : blk.length = 64) : (strLH s blk n)[72]? = some (.int .u64 (n : Int)) := by
  unfold strLH
  rw [List.getElem?_append_right (by rw [stL_len]; omega), stL_len, List.getElem?_append_right (by rw [b8_len]; omega), b8_len, h]
  rfl
theorem strL_st {j : Nat} {v : Value} (h : (w32 (stL s))[j]? = some v) : (strLH s blk n)[j]? = some v := by
  unfold strLH
  rw [List.getElem?_append_left (List.getElem?_eq_some_iff.1 h).1]; exact h
theorem strL_put (h : blk.length = 64) {a : Nat} {x : List Nat} (hx : a + x.length ≤ 64) : splice (strLH s blk n) (8 + a) (b8 x) = strLH s (Sha.put blk a x) n := by
  unfold splice strLH Sha.put
  rw [List.take_append, List.take_of_length_le (by rw [stL_len]; omega), stL_len, Nat.add_sub_cancel_left, List.take_append_of_le_length (by rw [b8_len]; omega), b8_len,
    List.drop_append, List.drop_eq_nil_of_le (by rw [stL_len]; omega), stL_len, show 8 + a + x.length - 8 = a + x.length by omega, List.nil_append, List.drop_append_of_le_length (by rw [b8_len]; omega)]
  simp only [b8_app, b8_take, b8_drop, List.append_assoc]
theorem strL_st_put (s' : Sha.St) : splice (strLH s blk n) 0 (w32 (stL s')) = strLH s' blk n := by
  unfold splice strLH
  rw [List.take_zero, List.nil_append, stL_len, List.drop_append, List.drop_eq_nil_of_le (by rw [stL_len]; omega), stL_len]
  rfl
theorem strL_set (h : blk.length = 64) (n' : Nat) : (strLH s blk n).set 72 (.int .u64 (n' : Int)) = strLH s blk n' := by
  unfold strLH
  rw [List.set_append_right _ _ (by rw [stL_len]; omega), stL_len, List.set_append_right _ _ (by rw [b8_len]; omega), b8_len, h]
  rfl
theorem strL_one : ∀ v ∈ strLH s blk n, v.oneCell' = true := by
  intro v hv
  unfold strLH at hv
  rcases List.mem_append.1 hv with hv | hv
  · exact w32_one _ v hv
  · rcases List.mem_append.1 hv with hv | hv
    · exact b8_one _ v hv
    · rw [List.mem_singleton.1 hv]; rfl
end
def StrV (m : List Nat) (v : Value) : Prop := ∃ st blk, v = .agg (strLH st blk m.length).toArray ∧ Sha.Str m st blk ∧ ∀ x ∈ blk, x < 256
theorem put_lt {blk x : List Nat} {a : Nat} (h : ∀ z ∈ blk, z < 256) (hx : ∀ z ∈ x, z < 256) : ∀ z ∈ Sha.put blk a x, z < 256 := by
  intro z hz
  unfold Sha.put at hz
  rcases List.mem_append.1 hz with hz | hz
  · exact h z (List.mem_of_mem_take hz)
  · rcases List.mem_append.1 hz with hz | hz
    · exact hx z hz
    · exact h z (List.mem_of_mem_drop hz)
end Go.Proofs.YtdlbfjoemabfpaaGreatDoor
namespace Go.Proofs.YtdlbfjoemabfpaaGreatDoor
open Go.RowKit Go.Sort
set_option linter.unusedVariables false
set_option linter.unusedSimpArgs false
set_option maxRecDepth 100000
def partsV (v : VaryV) : List ByteArray := [v.header, sepT 32 v.values, v.dflt]
def openB (sg : Bool) : ByteArray := if sg then (⟨#[115, 105, 103, 110, 101, 100]⟩ : ByteArray) else (⟨#[111, 112, 101, 110]⟩ : ByteArray)
def headR (r : RuleV) : List ByteArray := [r.name, r.pat, sepT 44 r.tags, numT [r.fresh, r.stale, r.down, r.neg, r.cost], (textE r.allow).1, openB r.signed, r.prog, itoaB r.vary.length]
def partsR (r : RuleV) : List ByteArray := headR r ++ r.vary.flatMap partsV
def partsP (cust : ByteArray) (party : Int) (l : List RuleV) : List ByteArray := [cust, itoaB party] ++ l.flatMap partsR
structure NameOk (x : RuleM) : Prop where
  ok : RuleOk x.r
  fits : RuleFits x.r
  ct : x.r.tags.length ≤ x.ct
  cy : ∀ y ∈ x.L, y.v.values.length ≤ y.c
  tx : (textE x.r.allow).1.size ≤ 1000000
theorem sep_le (d : UInt8) (B : Nat) (ws : List ByteArray) (h : ∀ x ∈ ws, x.size ≤ B) : (Lib.join (ws.map (·.data.toList)) [d]).length ≤ ws.length * (B + 1) := by
  have := join_le d B (ws.map (·.data.toList)) (by
    intro y hy
    obtain ⟨z, hz, rfl⟩ := List.mem_map.1 hy
    have := h z hz; rw [Lib.size_eq] at this; exact this)
  rwa [List.length_map] at this
theorem sep_size (d : UInt8) (B : Nat) (ws : List ByteArray) (h : ∀ x ∈ ws, x.size ≤ B) : (sepT d ws).size ≤ ws.length * (B + 1) := by
  have := sep_le d B ws h
  unfold sepT
  rw [Lib.size_eq]
  exact this
theorem sep10 (d : UInt8) (ws : List ByteArray) (hn : ws.length ≤ 10) (h : ∀ x ∈ ws, x.size ≤ 200) : (Lib.join (ws.map (·.data.toList)) [d]).length ≤ 2010 := by
  have := sep_le d 200 ws h
  have h2 : ws.length * (200 + 1) ≤ 10 * 201 := Nat.mul_le_mul_right _ hn
  omega
theorem num5_size (l : List Int) (hn : l.length ≤ 5) (h : ∀ x ∈ l, -9223372036854775808 ≤ x ∧ x ≤ 9223372036854775807) : (Lib.join ((l.map itoaB).map (·.data.toList)) [32]).length ≤ 110 := by
  have := sep_le 32 21 (l.map itoaB) (by
    intro y hy
    obtain ⟨z, hz, rfl⟩ := List.mem_map.1 hy
    exact itoa_size z (h z hz).1 (h z hz).2)
  rw [List.length_map] at this
  have h2 : l.length * (21 + 1) ≤ 5 * 22 := Nat.mul_le_mul_right _ hn
  omega
theorem sepR_any (d : UInt8) (A : Option Addr) (n c : Nat) (ws : List ByteArray) (W : World) (hR : Reads W 1 A n (ws.map .string)) (hc : n ≤ c) (hn : n ≤ 1000000) (hlen : (Lib.join (ws.map (·.data.toList)) [d]).length ≤ 140737488355328) :
    Calls Tryz.prog 59 #[.slice A n c, .string ⟨#[d]⟩] W (Ret W (.string (sepT d ws))) := by
  have hl : ws.length = n := by have := hR.1; simp at this; omega
  rcases Nat.eq_zero_or_pos n with h0 | h0
  · subst h0
    obtain rfl : ws = [] := List.eq_nil_of_length_eq_zero hl
    refine (Tryz.strings_Join_none A c ⟨#[d]⟩ W).mono fun e w' ⟨h5, h6⟩ => ⟨?_, by rw [h6]; exact Below.refl _ _⟩
    rw [h5]
    rfl
  · have hlt := fun b o (e : A = some ⟨b, o, none⟩) => reads_lt hR h0 ⟨b, o, none⟩ e
    obtain ⟨b, o, rfl, hcell⟩ := hR.2 h0
    have := Tryz.strings_Join b o c ws ⟨#[d]⟩ W (fun j x hx => hcell j (.string x) (by simp [hx])) (hlt b o rfl) (by omega) (by omega) hlen
    rw [hl] at this
    exact this
theorem headR_size {x : RuleM} (h : NameOk x) : ∀ s ∈ headR x.r, s.size ≤ 1000000 := by
  obtain ⟨ok, f, ct, cy, tx⟩ := h
  have h1 := f.name; have h2 := f.pat; have h3 := f.prog
  have h4 := sep_size 44 200 x.r.tags f.t
  have h4b : x.r.tags.length * (200 + 1) ≤ 10 * 201 := Nat.mul_le_mul_right _ f.nt
  have h5 : (numT [x.r.fresh, x.r.stale, x.r.down, x.r.neg, x.r.cost]).size ≤ 110 := by
    unfold numT sepT
    rw [Lib.size_eq]
    refine num5_size _ (by simp) ?_
    have := ok.f0; have := ok.f1; have := ok.s0; have := ok.s1; have := ok.d0; have := ok.d1; have := ok.n0; have := ok.n1; have := ok.c0; have := ok.c1
    intro y hy
    simp only [List.mem_cons, List.not_mem_nil, or_false] at hy
    rcases hy with rfl | rfl | rfl | rfl | rfl <;> omega
  have h6 : (openB x.r.signed).size ≤ 6 := by
    unfold openB; split <;> decide
  have h7 : (itoaB (x.r.vary.length : Int)).size ≤ 21 := itoa_size _ (by omega) (by have := f.nv; omega)
  intro s hs
  unfold headR at hs
  simp only [List.mem_cons, List.not_mem_nil, or_false] at hs
  rcases hs with rfl | rfl | rfl | rfl | rfl | rfl | rfl | rfl <;> omega
theorem partsV_size {v : VaryV} (h : VaryFits v) : ∀ s ∈ partsV v, s.size ≤ 1000000 := by
  have h1 := h.h; have h2 := h.d
  have h4 := sep_size 32 200 v.values h.x
  have h4b : v.values.length * (200 + 1) ≤ 10 * 201 := Nat.mul_le_mul_right _ h.n
  intro s hs
  unfold partsV at hs
  simp only [List.mem_cons, List.not_mem_nil, or_false] at hs
  rcases hs with rfl | rfl | rfl <;> omega
theorem partsR_size {x : RuleM} (h : NameOk x) : ∀ s ∈ partsR x.r, s.size ≤ 1000000 := by
  intro s hs
  unfold partsR at hs
  rcases List.mem_append.1 hs with hs | hs
  · exact headR_size h s hs
  · obtain ⟨v, hv, hs⟩ := List.mem_flatMap.1 hs
    exact partsV_size (h.fits.v v hv) s hs
theorem flat3_len (l : List VaryV) : (l.flatMap partsV).length = 3 * l.length := by
  induction l with
  | nil => rfl
  | cons v l ih => rw [List.flatMap_cons, List.length_append, ih]; simp [partsV]; omega
theorem partsR_len {x : RuleM} (h : NameOk x) : (partsR x.r).length ≤ 38 := by
  unfold partsR
  rw [List.length_append, flat3_len]
  have := h.fits.nv
  simp [headR]; omega
theorem partsP_size (cust : ByteArray) (party : Int) (L : List RuleM) (hc : cust.size ≤ 1000000) (hp : -9223372036854775808 ≤ party ∧ party ≤ 9223372036854775807) (h : ∀ x ∈ L, NameOk x) : ∀ s ∈ partsP cust party (L.map (·.r)), s.size ≤ 1000000 := by
  intro s hs
  unfold partsP at hs
  rcases List.mem_append.1 hs with hs | hs
  · simp only [List.mem_cons, List.not_mem_nil, or_false] at hs
    rcases hs with rfl | rfl
    · exact hc
    · have := itoa_size party hp.1 hp.2; omega
  · obtain ⟨r, hr, hs⟩ := List.mem_flatMap.1 hs
    obtain ⟨x, hx, rfl⟩ := List.mem_map.1 hr
    exact partsR_size (h x hx) s hs
theorem flatR_len (L : List RuleM) (h : ∀ x ∈ L, NameOk x) : ((L.map (·.r)).flatMap partsR).length ≤ 38 * L.length := by
  induction L with
  | nil => simp
  | cons x L ih =>
    rw [List.map_cons, List.flatMap_cons, List.length_append]
    have h1 := partsR_len (h x (by simp))
    have h2 := ih (fun y hy => h y (by simp [hy]))
    simp only [List.length_cons]
    omega
theorem run_cond_at {W : World} {g : Nat} {X : Array Value} {c : CondV} {m : CondMem} (h : Box1 W g 33 X) (hX : ∀ j v, [Value.int .i64 c.fr, .int .i64 c.till, .string c.pat, .slice m.A c.cl.length m.ca, .slice m.B c.co.length m.cb, .slice m.S c.si.length m.cs, .int .i64 c.us][j]? = some v → X[8 + j]? = some v) :
    (loadVar 31 ⟨g, 8, none⟩).run Tryz.prog W = .ok (CondMem.val c m) W := by
  refine run_loadVar_at (P := Tryz.prog) W g 8 33 31 X.toList [Value.int .i64 c.fr, .int .i64 c.till, .string c.pat, .slice m.A c.cl.length m.ca, .slice m.B c.co.length m.cb, .slice m.S c.si.length m.cs, .int .i64 c.us] (0, 0) _ ?_ ?_ Tryz.underlying31 rfl (by kernel_rfl)
  · rw [Array.toArray_toList]; exact h
  · intro j v hj
    have := hX j v hj
    rwa [← Array.getElem?_toList] at this
end Go.Proofs.YtdlbfjoemabfpaaGreatDoor
namespace Go.Proofs.YtdlbfjoemabfpaaGreatDoor
open Go.RowKit Go.Sort
set_option linter.unusedVariables false
set_option linter.unusedSimpArgs false
set_option maxRecDepth 100000
theorem inf64b : (Tryz.prog.info? 5).map (·.size) = some 1 := by kernel_rfl
theorem run_slice64 (W : World) (g a : Nat) (ha : a < 64) : (Instr.sliceAt 131 (.pointer (some ⟨g, 8, none⟩)) (some (.int .i64 (a : Int))) none none).run Tryz.prog W = .ok (.slice (some ⟨g, 8 + a, none⟩) (64 - a) (64 - a)) W := by
  have h1 := run_underlying Tryz.underlying131 W
  have hi := inf64b
  cases hq : Tryz.prog.info? 5 with
  | none => rw [hq] at hi; cases hi
  | some i =>
    have hs : i.size = 1 := by rw [hq] at hi; simpa using hi
    have e1 : ¬ (64 : Nat) = a := by omega
    have e2 : (a : Int) ≤ 64 := by omega
    by_cases h0 : a = 0
    · subst h0
      simp [Instr.sliceAt, h1, Instr.sureAddr, Instr.sliceBounds, run_sliceBound, sizeOf, typeInfo, hq, hs, e1, Addr.add]
    · simp [Instr.sliceAt, h1, Instr.sureAddr, Instr.sliceBounds, run_sliceBound, sizeOf, typeInfo, hq, hs, e1, e2, h0, Addr.add]
def AddPost (m : List Nat) (w : World) (e : Ending) (w' : World) : Prop := (∃ v, e = .returned v ∧ StrV m v) ∧ Below w.heap.size w w'
set_option maxHeartbeats 4000000 in
theorem add_any (m : List Nat) (v : Value) (s : ByteArray) (w : World) (hv : StrV m v) (hlen : m.length + s.size ≤ 1000000000000) (hK : Ks w) :
    Calls Tryz.prog 105 #[v, .string s] w (AddPost (m ++ nb s) w) := by
  obtain ⟨st, blk, rfl, hst, hbk⟩ := hv
  obtain ⟨X, hX⟩ : ∃ X, X = (strLH st blk m.length).toArray := ⟨_, rfl⟩
  rw [← hX]
  have HK := Lib.hid hK; have HX := Lib.hid hX; have HST := Lib.hid hst; have HBK := Lib.hid hbk
  clear hK hX hst hbk
  go_enter Tryz.func105, Tryz.ntmps105
  go_wp2
  go_loopw [1] (fun v wr => ∃ (k : Nat) (x : ByteArray) (st : Sha.St) (blk : List Nat) (Z : List Value), k ≤ s.size ∧ v = .string x ∧ x.size = s.size - k ∧ Hid (x.data.toList = s.data.toList.drop k) ∧ Hid (Sha.Str (m ++ (nb s).take k) st blk) ∧ Hid (∀ y ∈ blk, y < 256) ∧ Hid (RowV wr w.heap.size 134 (strLH st blk (m.length + k))) ∧ Hid (RowV wr (w.heap.size + 1) 134 Z) ∧ Hid (Z.length = 73) ∧ Below w.heap.size w wr) (fun v _ => match v with | .string t => t.size | _ => 0)
  case atStart =>
    refine ⟨0, s, st, blk, Tryz.zeroCells134.toList, by omega, rfl, by omega, Lib.hid rfl, Lib.hid ?_, HBK, Lib.hid ?_, Lib.hid ?_, Lib.hid ?_, belB⟩
    · rw [List.take_zero, List.append_nil]; exact HST.out
    · have := HX.out
      rw [Nat.add_zero]
      exact (heap_alloc2_old w _ _).trans (by rw [this])
    · exact (heap_alloc2_new w _ _).trans (by simp)
    · kernel_rfl
  case round =>
    obtain ⟨k, x, st, blk, Z, hk, rfl, hxs, HXD, HST, HBK, HB, HZ, HZL, hb⟩ := hrel
    clear HX
    by_cases h0 : x.size = 0
    · have e1 : x.toList.isEmpty = true := by
        rw [Lib.toList_data, List.isEmpty_iff]
        exact List.eq_nil_of_length_eq_zero (by rw [← Lib.size_eq]; exact h0)
      have hks : k = s.size := by omega
      have hall : (nb s).take k = nb s := List.take_of_length_le (by rw [nb_len]; omega)
      have hst2 := HST.out
      rw [hall] at hst2
      have hml : (m ++ nb s).length = m.length + k := by rw [List.length_append, nb_len, hks]
      have hl73 : (strLH st blk (m.length + k)).toArray.size = 73 := by rw [List.size_toArray, strLH_len hst2.len]
      have hi : (Tryz.prog.info? 134).map (·.size) = some (strLH st blk (m.length + k)).toArray.size := by rw [hl73]; kernel_rfl
      have hz : Z.toArray.size = (strLH st blk (m.length + k)).toArray.size := by rw [hl73, List.size_toArray]; exact HZL.out
      have h1 : (strLH st blk (m.length + k)).toArray.all (·.oneCell') = true := by rw [List.all_toArray, List.all_eq_true]; exact strL_one
      have hB : wr.heap[w.heap.size]? = some (.cells (strLH st blk (m.length + k)).toArray 134 (0, 0)) := HB.out
      have hv : StrV (m ++ nb s) (.agg (strLH st blk (m.length + k)).toArray) := ⟨st, blk, by rw [hml], hst2, HBK.out⟩
      have HI := Lib.hid hi; have HZS := Lib.hid hz; have H1 := Lib.hid h1; have HBB := Lib.hid hB; have HV := Lib.hid hv
      clear hks hall hst2 hml hl73 hi hz h1 hB hv HB HST HBK
      generalize (strLH st blk (m.length + k)).toArray = Y at *
      go_wp2_with (first | (refine wpList_load_row rfl _ _ rfl w.heap.size rfl _ Y (0, 0) _ HBB.out Tryz.underlying134 rfl HI.out ?_) | (refine wpList_store_row rfl _ _ _ rfl (w.heap.size + 1) Y rfl rfl _ _ HZ.out HI.out HZS.out H1.out ?_))
      refine bodyPost_ret (v := .agg Y) ?_ rfl ⟨⟨_, rfl, HV.out⟩, ?_⟩
      · exact results_cell_row rfl _ _ (w.heap.size + 1) _ _ (0, 0) _ rfl (setRow_heap _ _ _ _ _ _ HZ.out) Tryz.underlying134 rfl HI.out
      · exact below_setRow hb (by omega) _
    · have e1 : x.toList.isEmpty = false := by
        rw [Lib.toList_data]
        cases h : x.data.toList with
        | nil => exact absurd (by rw [Lib.size_eq, h]; rfl) h0
        | cons a l => rfl
      obtain ⟨N, hN⟩ : ∃ N, N = m.length + k := ⟨_, rfl⟩
      rw [← hN] at HB
      have hN2 : N ≤ 1000000000000 := by omega
      obtain ⟨a, ha⟩ : ∃ a, a = N % 64 := ⟨_, rfl⟩
      have ha64 : a < 64 := by omega
      have haN : (N : Int) % 64 = (a : Int) := by omega
      obtain ⟨q, hq⟩ : ∃ q, q = Nat.min x.size (64 - a) := ⟨_, rfl⟩
      have hq1 : q ≤ x.size := by rw [hq]; exact Nat.min_le_left _ _
      have hq2 : q ≤ 64 - a := by rw [hq]; exact Nat.min_le_right _ _
      have hq3 : 0 < q := by rw [hq]; exact Nat.lt_min.2 ⟨by omega, by omega⟩
      have hbl : blk.length = 64 := HST.out.len
      have cn : wr.cell? ⟨w.heap.size, 72, none⟩ = some (.int .u64 (N : Int)) := RowV.cell HB.out (strL_n hbl)
      have HN := Lib.hid hN; have HA := Lib.hid ha; have HQ := Lib.hid hq; have HBL := Lib.hid hbl
      clear hN ha hq hbl
      have hcs : (txtCells x).take q = b8 ((nb x).take q) := by rw [txt_nb, b8_take]
      have hcl : ((txtCells x).take q).length = q := by rw [List.length_take, txtCells_len]; omega
      have hfit : 8 + a + ((txtCells x).take q).length ≤ (strLH st blk N).length := by rw [hcl, strLH_len HBL.out]; omega
      have hsp : splice (strLH st blk N) (8 + a) ((txtCells x).take q) = strLH st (Sha.put blk a ((nb x).take q)) N := by
        rw [hcs]; exact strL_put HBL.out (by rw [List.length_take, nb_len]; omega)
      have hqm : (txtCells x).take q = (txtCells x).take (Nat.min x.size (64 - a)) := by rw [HQ.out]
      obtain ⟨cs, hcs2⟩ : ∃ cs, cs = (txtCells x).take q := ⟨_, rfl⟩
      rw [← hcs2] at hcl hfit hsp hqm
      have HCL := Lib.hid hcl; have HF := Lib.hid hfit; have HSP := Lib.hid hsp; have HQM := Lib.hid hqm
      clear hcs hcl hfit hsp hqm hcs2
      have hsl : ∀ W, (Instr.sliceAt 131 (.pointer (some ⟨w.heap.size, 8, none⟩)) (some (.int .i64 (a : Int))) none none).run Tryz.prog W = .ok (.slice (some ⟨w.heap.size, 8 + a, none⟩) (64 - a) (64 - a)) W := fun W => run_slice64 W w.heap.size a ha64
      go_upto_region 4 with (refine wpList_copy_str rfl _ _ _ _ rfl 5 Tryz.underlying120 (by kernel_rfl) w.heap.size (8 + a) (64 - a) (64 - a) x rfl rfl (strLH st blk N) _ HB.out cs HQM.out HF.out q HCL.out ?_)
      obtain ⟨w3, hw3⟩ : ∃ x : World, x = wr.setRow w.heap.size (splice (strLH st blk N) (8 + a) cs).toArray := ⟨_, rfl⟩
      rw [← hw3]
      have hB3 : RowV w3 w.heap.size 134 (strLH st (Sha.put blk a ((nb x).take q)) N) := by rw [hw3, ← HSP.out]; exact RowV.row HB.out _
      have hZ3 : RowV w3 (w.heap.size + 1) 134 Z := by rw [hw3]; exact RowV.row_far HZ.out _ _ (by omega)
      have hb3 : Below w.heap.size w w3 := by rw [hw3]; exact below_setRow hb (Nat.le_refl _) _
      clear hw3 cn
      have hpl : (Sha.put blk a ((nb x).take q)).length = 64 := by rw [Sha.put_len (by rw [List.length_take, nb_len, HBL.out]; omega)]; exact HBL.out
      have hpb : ∀ y ∈ Sha.put blk a ((nb x).take q), y < 256 := put_lt HBK.out fun z hz => nb_lt x z (List.mem_of_mem_take hz)
      have hnk : (nb s).take (k + q) = (nb s).take k ++ (nb x).take q := by
        have : nb x = (nb s).drop k := by unfold nb; rw [HXD.out, List.map_drop]
        rw [this, List.take_add]
      have hml : (m ++ (nb s).take k).length % 64 = a := by rw [HA.out, HN.out, List.length_append, List.length_take, nb_len, Nat.min_eq_left hk]
      have hN3 : m.length + (k + q) = N + q := by rw [HN.out]; omega
      have hxq : ((nb x).take q).length = q := by rw [List.length_take, nb_len]; omega
      have hxd : (x.extract q (s.size - k)).data.toList = s.data.toList.drop (k + q) := by
        rw [show s.size - k = x.size by omega, Lib.extract_to_end, HXD.out, List.drop_drop]
      have hxz : (x.extract q (s.size - k)).size = s.size - (k + q) := by rw [ByteArray.size_extract]; omega
      have c3 : w3.cell? ⟨w.heap.size, 72, none⟩ = some (.int .u64 (N : Int)) := RowV.cell hB3 (strL_n hpl)
      have f3 : w3.frozen? ⟨w.heap.size, 72, none⟩ = false := RowV.free hB3 72
      have hq0 : (0 : Int) ≤ q := by omega
      have hz3 : w.heap.size + 1 < w3.heap.size := RowV.lt hZ3
      have HB3 := Lib.hid hB3; have HZ3 := Lib.hid hZ3; have HPL := Lib.hid hpl; have HPB := Lib.hid hpb; have HNK := Lib.hid hnk; have HML := Lib.hid hml; have HN3 := Lib.hid hN3; have HXQ := Lib.hid hxq; have HXD3 := Lib.hid hxd; have HXZ := Lib.hid hxz
      clear hB3 hZ3 hpl hpb hnk hml hN3 hxq hxd hxz HB HZ HSP HQM HF HCL
      have hn3 : ((N : Int) + q) = ((N + q : Nat) : Int) := by omega
      have hB4 : RowV (w3.setCell ⟨w.heap.size, 72, none⟩ (.int .u64 ((N : Int) + q))) w.heap.size 134 (strLH st (Sha.put blk a ((nb x).take q)) (N + q)) := by
        rw [hn3, ← strL_set (n := N) HPL.out (N + q)]; exact RowV.set_ HB3.out 72 _
      have hZ4 : RowV (w3.setCell ⟨w.heap.size, 72, none⟩ (.int .u64 ((N : Int) + q))) (w.heap.size + 1) 134 Z := RowV.far HZ3.out _ _ (by simp)
      have HB4 := Lib.hid hB4; have HZ4 := Lib.hid hZ4
      clear hn3 hB4 hZ4
      by_cases hf : a + q = 64
      · have e2 : ((a : Int) + q == 64) = true := by simp; omega
        have hst2 := HST.out.full ((nb x).take q) (by rw [HML.out, HXQ.out]; exact hf)
        rw [HML.out] at hst2
        have hok := HST.out.ok
        have HS2 := Lib.hid hst2
        clear hst2
        go_wp2_with fail
        obtain ⟨wd, hwd⟩ : ∃ y : World, y = (w3.setCell ⟨w.heap.size, 72, none⟩ (.int .u64 ((N : Int) + q))).drew := ⟨_, rfl⟩
        have hBd : RowV wd w.heap.size 134 (strLH st (Sha.put blk a ((nb x).take q)) (N + q)) := by rw [hwd]; exact HB4.out
        have hZd : RowV wd (w.heap.size + 1) 134 Z := by rw [hwd]; exact HZ4.out
        have hbd : Below w.heap.size w wd := by rw [hwd]; exact (hb3.setCell (p := ⟨w.heap.size, 72, none⟩) (Nat.le_refl _) _).drew
        have x0 : wd.cell? ⟨w.heap.size, 0, none⟩ = some (.int .u32 (st.a : Int)) := RowV.cell hBd (strL_st rfl)
        have x1 : wd.cell? ⟨w.heap.size, 1, none⟩ = some (.int .u32 (st.b : Int)) := RowV.cell hBd (strL_st rfl)
        have x2 : wd.cell? ⟨w.heap.size, 2, none⟩ = some (.int .u32 (st.c : Int)) := RowV.cell hBd (strL_st rfl)
        have x3 : wd.cell? ⟨w.heap.size, 3, none⟩ = some (.int .u32 (st.d : Int)) := RowV.cell hBd (strL_st rfl)
        have x4 : wd.cell? ⟨w.heap.size, 4, none⟩ = some (.int .u32 (st.e : Int)) := RowV.cell hBd (strL_st rfl)
        have x5 : wd.cell? ⟨w.heap.size, 5, none⟩ = some (.int .u32 (st.f : Int)) := RowV.cell hBd (strL_st rfl)
        have x6 : wd.cell? ⟨w.heap.size, 6, none⟩ = some (.int .u32 (st.g : Int)) := RowV.cell hBd (strL_st rfl)
        have x7 : wd.cell? ⟨w.heap.size, 7, none⟩ = some (.int .u32 (st.h : Int)) := RowV.cell hBd (strL_st rfl)
        have hR : Reads wd 1 (some ⟨w.heap.size, 8, none⟩) 64 (b8 (Sha.put blk a ((nb x).take q))) := by
          refine ⟨by rw [b8_len, HPL.out], fun _ => ⟨_, _, rfl, fun j u hu => ?_⟩⟩
          have hj : j < 64 := by have := (List.getElem?_eq_some_iff.1 hu).1; rw [b8_len, HPL.out] at this; exact this
          rw [b8_at _ (by rw [HPL.out]; exact hj)] at hu
          rw [← Option.some.inj hu]
          exact RowV.cell hBd (strL_blk HPL.out hj)
        have hco := compress_any st hok (some ⟨w.heap.size, 8, none⟩) 64 _ wd hR HPB.out (by omega) (by omega) (HK.out.keep hbd)
        have hfit : 0 + (w32 (stL (Sha.comp st (Sha.put blk a ((nb x).take q))))).length ≤ (strLH st (Sha.put blk a ((nb x).take q)) (N + q)).length := by rw [strLH_len HPL.out, stL_len]; omega
        have hspl : splice (strLH st (Sha.put blk a ((nb x).take q)) (N + q)) 0 (w32 (stL (Sha.comp st (Sha.put blk a ((nb x).take q))))) = strLH (Sha.comp st (Sha.put blk a ((nb x).take q))) (Sha.put blk a ((nb x).take q)) (N + q) := strL_st_put _
        generalize Sha.put blk a ((nb x).take q) = bl2 at *
        generalize Sha.comp st bl2 = st2 at *
        have HCO := Lib.hid hco; have HWD := Lib.hid hwd; have HBd := Lib.hid hBd; have HZd := Lib.hid hZd; have HFT := Lib.hid hfit; have HSPL := Lib.hid hspl
        have hi8 : (Tryz.prog.info? 130).map (·.size) = some (w32 (stL st2)).length := by rw [stL_len]; kernel_rfl
        have HI8 := Lib.hid hi8
        clear hco hwd hBd hZd hR hok hfit hspl hi8
        refine wp_region_still_tail 4 (by kernel_rfl) (by kernel_rfl) ?_
        simp only [List.take_succ_cons, List.take_zero, List.drop_succ_cons, List.drop_zero]
        change wpStill _ _ (w3.setCell ⟨w.heap.size, 72, none⟩ (.int .u64 ((N : Int) + q))).drew _ _ _
        rw [← HWD.out]
        repeat still_step
        refine wpStill_nil ?_
        change wpList _ _ _ _ _ (w3.setCell ⟨w.heap.size, 72, none⟩ (.int .u64 ((N : Int) + q))).drew
        rw [← HWD.out]
        clear x0 x1 x2 x3 x4 x5 x6 x7
        go_wp2_with (first | (go_at_call 144; refine HCO.out.mono ?_; rintro e w5 ⟨rfl, hb5⟩) | (refine wpList_store_at rfl _ _ _ rfl w.heap.size 0 (w32 (stL st2)) rfl rfl _ _ (RowV.keep HBd.out hb5) HI8.out HFT.out (w32_one _) ?_))
        (try simp only [Act.put, List.setIfInBounds_toArray, List.set_cons_succ, List.set_cons_zero])
        go_roundw
        case measure =>
          rename_i t2 he2 z t1 he1
          have h1 : Value.string x = .string t1 := he1
          have h2 : Value.string (x.extract q (s.size - k)) = .string t2 := he2
          injection h1 with h1
          injection h2 with h2
          rw [← h1, ← h2, HXZ.out]; omega
        case rel =>
         refine ⟨k + q, x.extract q (s.size - k), st2, bl2, Z, by omega, rfl, HXZ.out, HXD3, Lib.hid ?_, HPB, Lib.hid ?_, Lib.hid ?_, HZL, ?_⟩
         · rw [HNK.out, ← List.append_assoc]; exact HS2.out
         · rw [HN3.out, ← HSPL.out]; exact RowV.row (RowV.keep HBd.out hb5) _
         · exact RowV.row_far (RowV.keep HZd.out hb5) _ _ (by omega)
         · exact below_setRow (hbd.trans (hb5.mono hbd.size)) (Nat.le_refl _) _
      · have e2 : ((a : Int) + q == 64) = false := by simp; omega
        have hst2 := HST.out.step ((nb x).take q) (by rw [HML.out, HXQ.out]; omega)
        rw [HML.out] at hst2
        have HS2 := Lib.hid hst2
        clear hst2
        go_wp2_with fail
        refine ⟨⟨k + q, x.extract q (s.size - k), st, Sha.put blk a ((nb x).take q), Z, by omega, rfl, HXZ.out, HXD3, Lib.hid ?_, HPB, Lib.hid ?_, HZ4, HZL, hb3.setCell (p := ⟨w.heap.size, 72, none⟩) (Nat.le_refl _) _⟩, ?_⟩
        · rw [HNK.out, ← List.append_assoc]; exact HS2.out
        · rw [HN3.out]; exact HB4.out
        · show (x.extract q (s.size - k)).size < x.size
          rw [HXZ.out]; omega
end Go.Proofs.YtdlbfjoemabfpaaGreatDoor
namespace Go.Proofs.YtdlbfjoemabfpaaGreatDoor
open Go.RowKit Go.Sort
set_option linter.unusedVariables false
set_option linter.unusedSimpArgs false
set_option maxRecDepth 100000
def OwnB (l : List Nat) (w : World) (e : Ending) (w' : World) : Prop := ∃ A c, e = .returned (.slice A l.length c) ∧ w'.ownsRow w.heap.size 5 1 (.slice A l.length c) l.length (b8 l) ∧ Below w.heap.size w w'
theorem infoByte22 : (Tryz.prog.info? 5).map (fun i => (i.zero, i.size, i.bytes)) = some (some (.int .u8 0), 1, 1) := by kernel_rfl
theorem or128 (y : Nat) (hy : y < 256) : y ||| 128 = y % 128 + 128 := by
  have : ∀ y : Fin 256, y.val ||| 128 = y.val % 128 + 128 := by decide
  exact this ⟨y, hy⟩
theorem or128_bits (z : Nat) : bits .or .u8 ((z : Int) % 256) 128 = ((z % 128 + 128 : Nat) : Int) := by
  have h := u8_or_nat (z % 256) 128 (Nat.mod_lt _ (by decide)) (by decide)
  rw [or128 _ (Nat.mod_lt _ (by decide)), Nat.mod_mod_of_dvd z (by decide : 128 ∣ 256)] at h
  have e : ((z % 256 : Nat) : Int) = (z : Int) % 256 := by simp
  rw [e] at h; exact h
theorem zz_bits (n : Nat) (hn : n ≤ 4611686018427387903) : bits .xor .u64 ((n : Int) * 2) 0 = ((2 * n : Nat) : Int) := by
  have h := u64_xor_nat (2 * n) 0 (by omega) (by decide)
  rw [Nat.xor_zero] at h
  have e : ((2 * n : Nat) : Int) = (n : Int) * 2 := by omega
  rw [e] at h ⊢; exact h
set_option maxHeartbeats 4000000 in
theorem wireInt_any (n : Nat) (w : World) (hn : n ≤ 1000000000000) : Calls Tryz.prog 145 #[.int .i64 (n : Int)] w (OwnB (Sha.vint (2 * n)) w) := by
  obtain ⟨i0, hi, hz0, hz1, hz2⟩ := info_parts infoByte22
  have HI := Lib.hid (And.intro hi (And.intro hz0 (And.intro hz1 hz2)))
  clear hi hz0 hz1 hz2
  have hzz := zz_bits n (by omega)
  obtain ⟨V, hV⟩ : ∃ V, V = Sha.vint (2 * n) := ⟨_, rfl⟩
  rw [← hV]
  have HV := Lib.hid hV
  clear hV
  have e63 : (n : Int) / 9223372036854775808 = 0 := by omega
  go_enter Tryz.func145, Tryz.ntmps145
  go_wp2
  go_loopw [3, 4] (fun zv ov wr => ∃ (f z : Nat) (acc : List Nat) (A : Option Addr) (c : Nat), zv = .int .u64 (z : Int) ∧ ov = .slice A acc.length c ∧ z < 128 ^ (f + 1) ∧ f ≤ 7 ∧ acc.length + f = 7 ∧ Hid (V = acc ++ Sha.vintF (f + 3) z) ∧ wr.ownsRow w.heap.size 5 1 (.slice A acc.length c) acc.length (b8 acc) ∧ Below w.heap.size w wr) (fun zv _ _ => (intOf zv).toNat)
  case atStart =>
    refine ⟨7, 2 * n, [], none, 0, by simp, rfl, by simp; omega, by omega, rfl, Lib.hid ?_, World.ownsRow_nil _ _ _ _, Below.refl _ _⟩
    rw [HV.out]; rfl
  case round =>
    obtain ⟨f, z, acc, A, c, rfl, rfl, hz, hf, hfl, HVA, hown, hbr⟩ := hrel
    have hbs := hbr.size
    have hzb : z < 128 ^ 8 := Nat.lt_of_lt_of_le hz (Nat.pow_le_pow_right (by decide) (by omega))
    have hz0 : (0 : Int) ≤ z := by omega
    have hor := or128_bits z
    obtain ⟨k, hk⟩ : ∃ k, k = acc.length := ⟨_, rfl⟩
    have hkk : k ≤ 7 := by omega
    have HKL := Lib.hid hk
    rw [← hk] at hown ⊢
    clear hk
    by_cases h : z < 128
    · have hV1 : V = acc ++ [z] := by
        rw [HVA.out]
        show acc ++ (if z < 128 then [z] else _) = _
        rw [if_pos h]
      have d1 : decide (127 < (z : Int)) = false := by simp; omega
      have hm : (z : Int) % 256 = z := by omega
      have HV1 := Lib.hid hV1
      clear HVA hV1
      go_wp2_with (at_builtin; refine wpList_append_own _ rfl _ _ 120 rfl w.heap.size 5 i0 (.int .u8 0) 1 1 Tryz.underlying120 HI.out.1 HI.out.2.1 HI.out.2.2.1 HI.out.2.2.2 rfl (by decide) _ _ _ rfl (hown.alloc _) ⟨wr.heap.size, 0, none⟩ 1 1 [.int .u8 (z : Int)] rfl rfl (cell_one_new _ _ _) (by simp [Value.oneCell']) (by unfold maxLen; omega) (by omega) (by simp; omega) ?_; intro v' w3 hown1 hgrow1 _; obtain ⟨g1, cap1, rfl⟩ := ownsRow_succ hown1; have hb3 : Below w.heap.size w w3 := (hbr.alloc hbs _).grown hgrow1 (by simp; omega) (fun r e => ownsRow_block hown r e); have hbs3 := hb3.size; clear hown)
      go_ret
      refine ⟨some ⟨g1, 0, none⟩, cap1, ?_, ?_, hb3⟩
      · rw [HV1.out, List.length_append, ← HKL.out]; rfl
      · rw [HV1.out, List.length_append, ← HKL.out, b8_app]; exact hown1
    · have hV1 : V = (acc ++ [z % 128 + 128]) ++ Sha.vintF (f + 2) (z / 128) := by
        rw [HVA.out]
        show acc ++ (if z < 128 then [z] else (z % 128 + 128) :: Sha.vintF (f + 2) (z / 128)) = _
        rw [if_neg h, List.append_assoc]; rfl
      have d1 : decide (127 < (z : Int)) = true := by simp; omega
      have hf0 : 0 < f := by
        rcases Nat.eq_zero_or_pos f with h0 | h0
        · subst h0; simp at hz; omega
        · exact h0
      have hz2 : z / 128 < 128 ^ (f - 1 + 1) := by
        rw [show f - 1 + 1 = f by omega]
        rw [Nat.pow_succ] at hz
        exact Nat.div_lt_of_lt_mul (by rw [Nat.mul_comm]; exact hz)
      have HV1 := Lib.hid hV1
      have HZ2 := Lib.hid hz2
      clear HVA hV1 hz2 hz
      go_wp2_with (at_builtin; refine wpList_append_own _ rfl _ _ 120 rfl w.heap.size 5 i0 (.int .u8 0) 1 1 Tryz.underlying120 HI.out.1 HI.out.2.1 HI.out.2.2.1 HI.out.2.2.2 rfl (by decide) _ _ _ rfl (hown.alloc _) ⟨wr.heap.size, 0, none⟩ 1 1 [.int .u8 ((z % 128 + 128 : Nat) : Int)] rfl rfl (cell_one_new _ _ _) (by simp [Value.oneCell']) (by unfold maxLen; omega) (by omega) (by simp; omega) ?_; intro v' w3 hown1 hgrow1 _; obtain ⟨g1, cap1, rfl⟩ := ownsRow_succ hown1; have hb3 : Below w.heap.size w w3 := (hbr.alloc hbs _).grown hgrow1 (by simp; omega) (fun r e => ownsRow_block hown r e); have hbs3 := hb3.size; clear hown)
      have hal : (acc ++ [z % 128 + 128]).length = k + 1 := by rw [List.length_append, ← HKL.out]; rfl
      refine ⟨⟨f - 1, z / 128, acc ++ [z % 128 + 128], some ⟨g1, 0, none⟩, cap1, by simp, by rw [hal], HZ2.out, by omega, by rw [hal]; have := HKL.out; omega, Lib.hid ?_, ?_, hb3⟩, ?_⟩
      · rw [HV1.out, show f - 1 + 3 = f + 2 by omega]
      · rw [hal, b8_app]; exact hown1
      · simp [intOf]; omega
theorem own_slice {w : World} {base n : Nat} {e : TypeId} {v : Value} {xs : List Value} (h : w.ownsRow base e 1 v n xs) : ∃ A c, v = .slice A n c := by
  rcases h.2 with ⟨rfl, hx⟩ | ⟨g, cap, cur, rfl, _⟩
  · have := h.1
    rw [hx] at this
    have hn : n = 0 := by simp at this; omega
    subst hn
    exact ⟨none, 0, rfl⟩
  · exact ⟨_, _, rfl⟩
theorem strCells_nb (s : ByteArray) : Lib.strCells s = b8 (nb s) := txt_nb s
set_option maxHeartbeats 4000000 in
theorem wireBytes_any (s : ByteArray) (w : World) (hs : s.size ≤ 1000000000000) : Calls Tryz.prog 106 #[.string s] w (OwnB (Sha.wireB (nb s)) w) := by
  obtain ⟨i0, hi, hz0, hz1, hz2⟩ := info_parts infoByte22
  have HI := Lib.hid (And.intro hi (And.intro hz0 (And.intro hz1 hz2)))
  clear hi hz0 hz1 hz2
  have hin := wireInt_any s.size w hs
  obtain ⟨V, hV⟩ : ∃ V, V = Sha.vint (2 * s.size) := ⟨_, rfl⟩
  have hW : Sha.wireB (nb s) = V ++ nb s := by unfold Sha.wireB; rw [nb_len, hV]
  rw [← hV] at hin
  rw [hW]
  have hVl : V.length ≤ 11 := by rw [hV]; exact Sha.vint_len _
  obtain ⟨k, hk⟩ : ∃ k, k = V.length := ⟨_, rfl⟩
  have hkk : k ≤ 11 := by omega
  have HKL := Lib.hid hk
  unfold OwnB at hin
  rw [← hk] at hin
  have HIN := Lib.hid hin
  clear hin hV hW hVl hk
  go_enter Tryz.func106, Tryz.ntmps106
  go_wp2_with (first | (go_at_call 145; refine HIN.out.mono ?_; rintro e w2 ⟨A, c, rfl, hown, hb2⟩) | (at_builtin; refine Lib.wpList_append_own_string _ rfl _ _ 120 9 rfl w.heap.size 5 i0 Tryz.underlying120 Tryz.underlying9 HI.out.1 HI.out.2.1 HI.out.2.2.1 HI.out.2.2.2 _ _ _ rfl hown s rfl (by unfold maxLen; omega) (by omega) (by have := hb2.size; omega) ?_; intro v' w3 hown1 hgrow1 _))
  obtain ⟨A', c', rfl⟩ := own_slice hown1
  go_ret
  have hl : (V ++ nb s).length = k + s.size := by rw [List.length_append, nb_len, ← HKL.out]
  refine ⟨A', c', by rw [hl]; rfl, ?_, hb2.grown hgrow1 (by have := hb2.size; omega) (fun r e => ownsRow_block hown r e)⟩
  rw [hl, b8_app, ← strCells_nb]; exact hown1
end Go.Proofs.YtdlbfjoemabfpaaGreatDoor
namespace Go.Proofs.YtdlbfjoemabfpaaGreatDoor
open Go.RowKit Go.Sort
set_option linter.unusedVariables false
set_option linter.unusedSimpArgs false
set_option maxRecDepth 100000
def toN (l : List Nat) : ByteArray := ⟨(l.map UInt8.ofNat).toArray⟩
theorem nb_toN {l : List Nat} (h : ∀ x ∈ l, x < 256) : nb (toN l) = l := by
  unfold nb toN
  simp only [List.map_map]
  conv => rhs; rw [← List.map_id l]
  apply List.map_congr_left
  intro x hx
  have := h x hx
  simp [Nat.mod_eq_of_lt this]
theorem toN_size (l : List Nat) : (toN l).size = l.length := by simp [toN, ByteArray.size]
theorem run_text (W : World) (A : Option Addr) (n c : Nat) (l : List Nat) (hl : l.length = n) (h : ∀ x ∈ l, x < 256) (hn : 0 < n) (hR : Reads W 1 A n (b8 l)) : (convert 120 9 (.slice A n c)).run Tryz.prog W = .ok (.string (toN l)) W := by
  obtain ⟨b, o, rfl, hc⟩ := hR.2 hn
  have hL : (l.map UInt8.ofNat).length = n := by rw [List.length_map, hl]
  subst hL
  refine run_convert_bytes_back W _ _ 5 ⟨b, o, none⟩ c (l.map UInt8.ofNat) Tryz.underlying120 Tryz.underlying5 Tryz.underlying9 (fun j hj => ?_)
  have hj' : j < l.length := by simpa using hj
  have e : (⟨b, o, none⟩ : Addr).add j = ⟨b, o + j, none⟩ := by unfold Addr.add; split <;> simp_all
  rw [e, hc j _ (b8_at l hj')]
  have hx := h l[j] (List.getElem_mem hj')
  simp [List.getD_eq_getElem?_getD, List.getElem?_eq_getElem hj', Nat.mod_eq_of_lt hx]
theorem reads_own {w : World} {base n c : Nat} {A : Option Addr} {xs : List Value} (h : w.ownsRow base 5 1 (.slice A n c) n xs) : Reads w 1 A n xs := Reads.of_own h
theorem wireB_lt (s : ByteArray) (hs : s.size ≤ 1000000000000) : ∀ x ∈ Sha.wireB (nb s), x < 256 := by
  intro x hx
  unfold Sha.wireB at hx
  rcases List.mem_append.1 hx with hx | hx
  · refine Sha.vintF_lt 10 _ ?_ x hx
    rw [nb_len]
    exact Nat.lt_of_le_of_lt (by omega : 2 * s.size ≤ 2000000000000) (by decide)
  · exact nb_lt s x hx
end Go.Proofs.YtdlbfjoemabfpaaGreatDoor
