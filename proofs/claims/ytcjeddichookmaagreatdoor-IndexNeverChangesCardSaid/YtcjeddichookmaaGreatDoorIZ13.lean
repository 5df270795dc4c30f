/- Plain: what parts of patterns match, cover and have in common. -/
import Derived.Test.YtcjeddichookmaaGreatDoorIZ0
import Derived.Test.YtcjeddichookmaaGreatDoorIZ12
import Derived.Test.YtcjeddichookmaaGreatDoorProg
import Derived.WalkKit
import Derived.WalkSpells
import Derived.WalkLawsBesides
import Derived.Below
import Derived.Deep.QuietTactic
import Derived.BigQuiet
import Derived.Lib.QuietBelow
import Derived.Lib.Strings
import Derived.Lib.Hide
import Derived.Deep.RegionWith
import Derived.Deep.RegionHeld3
import Derived.Lib.IndexBytes
import Derived.Deep.DeepCutAuto
import Derived.Test.YtcjeddichookmaaGreatDoorIZ6
import Derived.LoopTactic
import Derived.OwnWalk
import Derived.Lib.AppendStr
import Derived.Test.YtcjeddichookmaaGreatDoorIZ5
namespace Go.Proofs.YtcjeddichookmaaGreatDoor
open Go.RowKit Go.Sort
set_option linter.unusedVariables false
set_option linter.unusedSimpArgs false
set_option maxRecDepth 100000
def PartFit (p : Part) : Prop :=
  (p.kind = 0 ∧ isWordB p.text = true) ∨ (p.kind = 1 ∧ ∃ s : ByteArray, isWordB s = true ∧ s.size ≤ 32 ∧ p.text.data.toList = 46 :: s.data.toList) ∨ (p.kind = 2 ∧ p.text = ⟨#[]⟩)
def CustFit (p : Part) : Prop := (p.kind = 0 ∧ isNameB p.text = true) ∨ (p.kind = 2 ∧ p.text = ⟨#[]⟩)
theorem CustFit.part {p : Part} (h : CustFit p) : PartFit p := by
  rcases h with ⟨h1, h2⟩ | h
  · exact .inl ⟨h1, name_word h2⟩
  · exact .inr (.inr h)
theorem size_data (s : ByteArray) : s.size = s.data.toList.length := Lib.size_eq s
end Go.Proofs.YtcjeddichookmaaGreatDoor
namespace Go.Proofs.YtcjeddichookmaaGreatDoor
open Go.RowKit Go.Sort
set_option linter.unusedVariables false
set_option linter.unusedSimpArgs false
set_option maxRecDepth 100000
def mtL : List Part → List Part → List Part → Option (List Part)
  | acc, [], _ => some acc
  | acc, a :: r, [] => mtL (acc ++ [a]) r []
  | acc, a :: r, b :: q => if meetsP a b then mtL (acc ++ [meetP a b]) r q else none
def commonO (x y : Pat) : Option Pat :=
  if !meetsP x.cust y.cust || (decide (y.parts.length < x.parts.length) && !y.tail) then none else (mtL [] x.parts y.parts).map fun l => ⟨meetP x.cust y.cust, l, x.tail && y.tail⟩
def commonP (x y : Pat) : Option Pat := if x.parts.length < y.parts.length then commonO y x else commonO x y
end Go.Proofs.YtcjeddichookmaaGreatDoor
namespace Go.Proofs.YtcjeddichookmaaGreatDoor
open Go.RowKit Go.Sort
set_option linter.unusedVariables false
set_option linter.unusedSimpArgs false
set_option maxRecDepth 100000
theorem extract_data (s : ByteArray) (i : Nat) : (s.extract i s.size).data.toList = s.data.toList.drop i := by
  rw [Lib.extract_to_end]
theorem words_len (ps : List Part) : (wordsL ps).length = ps.length := by simp [wordsL]
def coverL : List Part → List Part → Bool
  | [], _ => true
  | _ :: _, [] => false
  | a :: xs, b :: ys => coversP a.kind a.text b.kind b.text && coverL xs ys
def coverB (x y : Pat) : Bool :=
  coversP x.cust.kind x.cust.text y.cust.kind y.cust.text && !decide (y.parts.length < x.parts.length) && !(decide (x.parts.length < y.parts.length) && !x.tail) && !(y.tail && !x.tail) && coverL x.parts y.parts
end Go.Proofs.YtcjeddichookmaaGreatDoor
namespace Go.Proofs.YtcjeddichookmaaGreatDoor
open Go.RowKit Go.Sort
set_option linter.unusedVariables false
set_option linter.unusedSimpArgs false
set_option maxRecDepth 100000
def exText (z : Pat) : ByteArray := joinS (withP z.cust.kind z.cust.text ⟨#[97]⟩ :: wordsL z.parts)
def badL : List Part → List Part → Option (List ByteArray)
  | [], _ => none
  | _ :: _, [] => none
  | a :: xs, b :: ys => if coversP a.kind a.text b.kind b.text then (badL xs ys).map (withP b.kind b.text ⟨#[97]⟩ :: ·) else some (withoutP b.kind b.text a.kind a.text :: wordsL ys)
def coverW (x y : Pat) : ByteArray :=
  if !coversP x.cust.kind x.cust.text y.cust.kind y.cust.text then joinS (withoutP y.cust.kind y.cust.text x.cust.kind x.cust.text :: wordsL y.parts)
  else if decide (y.parts.length < x.parts.length) || (decide (x.parts.length < y.parts.length) && !x.tail) then exText y
  else if y.tail && !x.tail then joinS (withP y.cust.kind y.cust.text ⟨#[97]⟩ :: (wordsL y.parts ++ [⟨#[97]⟩]))
  else match badL x.parts y.parts with
    | some ws => joinS (withP y.cust.kind y.cust.text ⟨#[97]⟩ :: ws)
    | none => ⟨#[]⟩
end Go.Proofs.YtcjeddichookmaaGreatDoor
namespace Go.Proofs.YtcjeddichookmaaGreatDoor
open Go.RowKit Go.Sort
set_option linter.unusedVariables false
set_option linter.unusedSimpArgs false
set_option maxRecDepth 100000
theorem inf64b : (Tryz.prog.info? 5).map (·.size) = some 1 := by kernel_rfl
theorem run_slice64 (W : World) (g a : Nat) (ha : a < 64) : (Instr.sliceAt 102 (.pointer (some ⟨g, 8, none⟩)) (some (.int .i64 (a : Int))) none none).run Tryz.prog W = .ok (.slice (some ⟨g, 8 + a, none⟩) (64 - a) (64 - a)) W := by
  have h1 := run_underlying Tryz.underlying102 W
  have hi := inf64b
  cases hq : Tryz.prog.info? 5 with
  | none => rw [hq] at hi; cases hi
  | some i =>
    have hs : i.size = 1 := by rw [hq] at hi; simpa using hi
    have e1 : ¬ (64 : Nat) = a := by omega
    have e2 : (a : Int) ≤ 64 := by omega
    by_cases h0 : a = 0
    · subst h0
      simp [Instr.sliceAt, h1, Instr.sureAddr, Instr.sliceBounds, run_sliceBound, sizeOf, typeInfo, hq, hs, e1, Addr.add]
    · simp [Instr.sliceAt, h1, Instr.sureAddr, Instr.sliceBounds, run_sliceBound, sizeOf, typeInfo, hq, hs, e1, e2, h0, Addr.add]
def AddPost (m : List Nat) (w : World) (e : Ending) (w' : World) : Prop := (∃ v, e = .returned v ∧ StrV m v) ∧ Below w.heap.size w w'
set_option maxHeartbeats 4000000 in
theorem add_any (m : List Nat) (v : Value) (s : ByteArray) (w : World) (hv : StrV m v) (hlen : m.length + s.size ≤ 1000000000000) (hK : Ks w) :
    Calls Tryz.prog 56 #[v, .string s] w (AddPost (m ++ nb s) w) := by
  obtain ⟨st, blk, rfl, hst, hbk⟩ := hv
  obtain ⟨X, hX⟩ : ∃ X, X = (strLH st blk m.length).toArray := ⟨_, rfl⟩
  rw [← hX]
  have HK := Lib.hid hK; have HX := Lib.hid hX; have HST := Lib.hid hst; have HBK := Lib.hid hbk
  clear hK hX hst hbk
  go_enter Tryz.func56, Tryz.ntmps56
  go_wp2
  go_loopw [1] (fun v wr => ∃ (k : Nat) (x : ByteArray) (st : Sha.St) (blk : List Nat) (Z : List Value), k ≤ s.size ∧ v = .string x ∧ x.size = s.size - k ∧ Hid (x.data.toList = s.data.toList.drop k) ∧ Hid (Sha.Str (m ++ (nb s).take k) st blk) ∧ Hid (∀ y ∈ blk, y < 256) ∧ Hid (RowV wr w.heap.size 104 (strLH st blk (m.length + k))) ∧ Hid (RowV wr (w.heap.size + 1) 104 Z) ∧ Hid (Z.length = 73) ∧ Below w.heap.size w wr) (fun v _ => match v with | .string t => t.size | _ => 0)
  case atStart =>
    refine ⟨0, s, st, blk, Tryz.zeroCells104.toList, by omega, rfl, by omega, Lib.hid rfl, Lib.hid ?_, HBK, Lib.hid ?_, Lib.hid ?_, Lib.hid ?_, belB⟩
    · rw [List.take_zero, List.append_nil]; exact HST.out
    · have := HX.out
      rw [Nat.add_zero]
      exact (heap_alloc2_old w _ _).trans (by rw [this])
    · exact (heap_alloc2_new w _ _).trans (by simp)
    · kernel_rfl
  case round =>
    obtain ⟨k, x, st, blk, Z, hk, rfl, hxs, HXD, HST, HBK, HB, HZ, HZL, hb⟩ := hrel
    clear HX
    by_cases h0 : x.size = 0
    · have e1 : x.toList.isEmpty = true := by
        rw [Lib.toList_data, List.isEmpty_iff]
        exact List.eq_nil_of_length_eq_zero (by rw [← Lib.size_eq]; exact h0)
      have hks : k = s.size := by omega
      have hall : (nb s).take k = nb s := List.take_of_length_le (by rw [nb_len]; omega)
      have hst2 := HST.out
      rw [hall] at hst2
      have hml : (m ++ nb s).length = m.length + k := by rw [List.length_append, nb_len, hks]
      have hl73 : (strLH st blk (m.length + k)).toArray.size = 73 := by rw [List.size_toArray, strLH_len hst2.len]
      have hi : (Tryz.prog.info? 104).map (·.size) = some (strLH st blk (m.length + k)).toArray.size := by rw [hl73]; kernel_rfl
      have hz : Z.toArray.size = (strLH st blk (m.length + k)).toArray.size := by rw [hl73, List.size_toArray]; exact HZL.out
      have h1 : (strLH st blk (m.length + k)).toArray.all (·.oneCell') = true := by rw [List.all_toArray, List.all_eq_true]; exact strL_one
      have hB : wr.heap[w.heap.size]? = some (.cells (strLH st blk (m.length + k)).toArray 104 (0, 0)) := HB.out
      have hv : StrV (m ++ nb s) (.agg (strLH st blk (m.length + k)).toArray) := ⟨st, blk, by rw [hml], hst2, HBK.out⟩
      have HI := Lib.hid hi; have HZS := Lib.hid hz; have H1 := Lib.hid h1; have HBB := Lib.hid hB; have HV := Lib.hid hv
      clear hks hall hst2 hml hl73 hi hz h1 hB hv HB HST HBK
      generalize (strLH st blk (m.length + k)).toArray = Y at *
      go_wp2_with (first | (refine wpList_load_row rfl _ _ rfl w.heap.size rfl _ Y (0, 0) _ HBB.out Tryz.underlying104 rfl HI.out ?_) | (refine wpList_store_row rfl _ _ _ rfl (w.heap.size + 1) Y rfl rfl _ _ HZ.out HI.out HZS.out H1.out ?_))
      refine bodyPost_ret (v := .agg Y) ?_ rfl ⟨⟨_, rfl, HV.out⟩, ?_⟩
      · exact results_cell_row rfl _ _ (w.heap.size + 1) _ _ (0, 0) _ rfl (setRow_heap _ _ _ _ _ _ HZ.out) Tryz.underlying104 rfl HI.out
      · exact below_setRow hb (by omega) _
    · have e1 : x.toList.isEmpty = false := by
        rw [Lib.toList_data]
        cases h : x.data.toList with
        | nil => exact absurd (by rw [Lib.size_eq, h]; rfl) h0
        | cons a l => rfl
      obtain ⟨N, hN⟩ : ∃ N, N = m.length + k := ⟨_, rfl⟩
      rw [← hN] at HB
      have hN2 : N ≤ 1000000000000 := by omega
      obtain ⟨a, ha⟩ : ∃ a, a = N % 64 := ⟨_, rfl⟩
      have ha64 : a < 64 := by omega
      have haN : (N : Int) % 64 = (a : Int) := by omega
      obtain ⟨q, hq⟩ : ∃ q, q = Nat.min x.size (64 - a) := ⟨_, rfl⟩
      have hq1 : q ≤ x.size := by rw [hq]; exact Nat.min_le_left _ _
      have hq2 : q ≤ 64 - a := by rw [hq]; exact Nat.min_le_right _ _
      have hq3 : 0 < q := by rw [hq]; exact Nat.lt_min.2 ⟨by omega, by omega⟩
      have hbl : blk.length = 64 := HST.out.len
      have cn : wr.cell? ⟨w.heap.size, 72, none⟩ = some (.int .u64 (N : Int)) := RowV.cell HB.out (strL_n hbl)
      have HN := Lib.hid hN; have HA := Lib.hid ha; have HQ := Lib.hid hq; have HBL := Lib.hid hbl
      clear hN ha hq hbl
      have hcs : (txtCells x).take q = b8 ((nb x).take q) := by rw [txt_nb, b8_take]
      have hcl : ((txtCells x).take q).length = q := by rw [List.length_take, txtCells_len]; omega
      have hfit : 8 + a + ((txtCells x).take q).length ≤ (strLH st blk N).length := by rw [hcl, strLH_len HBL.out]; omega
      have hsp : splice (strLH st blk N) (8 + a) ((txtCells x).take q) = strLH st (Sha.put blk a ((nb x).take q)) N := by
        rw [hcs]; exact strL_put HBL.out (by rw [List.length_take, nb_len]; omega)
      have hqm : (txtCells x).take q = (txtCells x).take (Nat.min x.size (64 - a)) := by rw [HQ.out]
      obtain ⟨cs, hcs2⟩ : ∃ cs, cs = (txtCells x).take q := ⟨_, rfl⟩
      rw [← hcs2] at hcl hfit hsp hqm
      have HCL := Lib.hid hcl; have HF := Lib.hid hfit; have HSP := Lib.hid hsp; have HQM := Lib.hid hqm
      clear hcs hcl hfit hsp hqm hcs2
      have hsl : ∀ W, (Instr.sliceAt 102 (.pointer (some ⟨w.heap.size, 8, none⟩)) (some (.int .i64 (a : Int))) none none).run Tryz.prog W = .ok (.slice (some ⟨w.heap.size, 8 + a, none⟩) (64 - a) (64 - a)) W := fun W => run_slice64 W w.heap.size a ha64
      go_upto_region 4 with (refine wpList_copy_str rfl _ _ _ _ rfl 5 Tryz.underlying79 (by kernel_rfl) w.heap.size (8 + a) (64 - a) (64 - a) x rfl rfl (strLH st blk N) _ HB.out cs HQM.out HF.out q HCL.out ?_)
      obtain ⟨w3, hw3⟩ : ∃ x : World, x = wr.setRow w.heap.size (splice (strLH st blk N) (8 + a) cs).toArray := ⟨_, rfl⟩
      rw [← hw3]
      have hB3 : RowV w3 w.heap.size 104 (strLH st (Sha.put blk a ((nb x).take q)) N) := by rw [hw3, ← HSP.out]; exact RowV.row HB.out _
      have hZ3 : RowV w3 (w.heap.size + 1) 104 Z := by rw [hw3]; exact RowV.row_far HZ.out _ _ (by omega)
      have hb3 : Below w.heap.size w w3 := by rw [hw3]; exact below_setRow hb (Nat.le_refl _) _
      clear hw3 cn
      have hpl : (Sha.put blk a ((nb x).take q)).length = 64 := by rw [Sha.put_len (by rw [List.length_take, nb_len, HBL.out]; omega)]; exact HBL.out
      have hpb : ∀ y ∈ Sha.put blk a ((nb x).take q), y < 256 := put_lt HBK.out fun z hz => nb_lt x z (List.mem_of_mem_take hz)
      have hnk : (nb s).take (k + q) = (nb s).take k ++ (nb x).take q := by
        have : nb x = (nb s).drop k := by unfold nb; rw [HXD.out, List.map_drop]
        rw [this, List.take_add]
      have hml : (m ++ (nb s).take k).length % 64 = a := by rw [HA.out, HN.out, List.length_append, List.length_take, nb_len, Nat.min_eq_left hk]
      have hN3 : m.length + (k + q) = N + q := by rw [HN.out]; omega
      have hxq : ((nb x).take q).length = q := by rw [List.length_take, nb_len]; omega
      have hxd : (x.extract q (s.size - k)).data.toList = s.data.toList.drop (k + q) := by
        rw [show s.size - k = x.size by omega, Lib.extract_to_end, HXD.out, List.drop_drop]
      have hxz : (x.extract q (s.size - k)).size = s.size - (k + q) := by rw [ByteArray.size_extract]; omega
      have c3 : w3.cell? ⟨w.heap.size, 72, none⟩ = some (.int .u64 (N : Int)) := RowV.cell hB3 (strL_n hpl)
      have f3 : w3.frozen? ⟨w.heap.size, 72, none⟩ = false := RowV.free hB3 72
      have hq0 : (0 : Int) ≤ q := by omega
      have hz3 : w.heap.size + 1 < w3.heap.size := RowV.lt hZ3
      have HB3 := Lib.hid hB3; have HZ3 := Lib.hid hZ3; have HPL := Lib.hid hpl; have HPB := Lib.hid hpb; have HNK := Lib.hid hnk; have HML := Lib.hid hml; have HN3 := Lib.hid hN3; have HXQ := Lib.hid hxq; have HXD3 := Lib.hid hxd; have HXZ := Lib.hid hxz
      clear hB3 hZ3 hpl hpb hnk hml hN3 hxq hxd hxz HB HZ HSP HQM HF HCL
      have hn3 : ((N : Int) + q) = ((N + q : Nat) : Int) := by omega
      have hB4 : RowV (w3.setCell ⟨w.heap.size, 72, none⟩ (.int .u64 ((N : Int) + q))) w.heap.size 104 (strLH st (Sha.put blk a ((nb x).take q)) (N + q)) := by
        rw [hn3, ← strL_set (n := N) HPL.out (N + q)]; exact RowV.set_ HB3.out 72 _
      have hZ4 : RowV (w3.setCell ⟨w.heap.size, 72, none⟩ (.int .u64 ((N : Int) + q))) (w.heap.size + 1) 104 Z := RowV.far HZ3.out _ _ (by simp)
      have HB4 := Lib.hid hB4; have HZ4 := Lib.hid hZ4
      clear hn3 hB4 hZ4
      by_cases hf : a + q = 64
      · have e2 : ((a : Int) + q == 64) = true := by simp; omega
        have hst2 := HST.out.full ((nb x).take q) (by rw [HML.out, HXQ.out]; exact hf)
        rw [HML.out] at hst2
        have hok := HST.out.ok
        have HS2 := Lib.hid hst2
        clear hst2
        go_wp2_with fail
        obtain ⟨wd, hwd⟩ : ∃ y : World, y = (w3.setCell ⟨w.heap.size, 72, none⟩ (.int .u64 ((N : Int) + q))).drew := ⟨_, rfl⟩
        have hBd : RowV wd w.heap.size 104 (strLH st (Sha.put blk a ((nb x).take q)) (N + q)) := by rw [hwd]; exact HB4.out
        have hZd : RowV wd (w.heap.size + 1) 104 Z := by rw [hwd]; exact HZ4.out
        have hbd : Below w.heap.size w wd := by rw [hwd]; exact (hb3.setCell (p := ⟨w.heap.size, 72, none⟩) (Nat.le_refl _) _).drew
        have x0 : wd.cell? ⟨w.heap.size, 0, none⟩ = some (.int .u32 (st.a : Int)) := RowV.cell hBd (strL_st rfl)
        have x1 : wd.cell? ⟨w.heap.size, 1, none⟩ = some (.int .u32 (st.b : Int)) := RowV.cell hBd (strL_st rfl)
        have x2 : wd.cell? ⟨w.heap.size, 2, none⟩ = some (.int .u32 (st.c : Int)) := RowV.cell hBd (strL_st rfl)
        have x3 : wd.cell? ⟨w.heap.size, 3, none⟩ = some (.int .u32 (st.d : Int)) := RowV.cell hBd (strL_st rfl)
        have x4 : wd.cell? ⟨w.heap.size, 4, none⟩ = some (.int .u32 (st.e : Int)) := RowV.cell hBd (strL_st rfl)
        have x5 : wd.cell? ⟨w.heap.size, 5, none⟩ = some (.int .u32 (st.f : Int)) := RowV.cell hBd (strL_st rfl)
        have x6 : wd.cell? ⟨w.heap.size, 6, none⟩ = some (.int .u32 (st.g : Int)) := RowV.cell hBd (strL_st rfl)
        have x7 : wd.cell? ⟨w.heap.size, 7, none⟩ = some (.int .u32 (st.h : Int)) := RowV.cell hBd (strL_st rfl)
        have hR : Reads wd 1 (some ⟨w.heap.size, 8, none⟩) 64 (b8 (Sha.put blk a ((nb x).take q))) := by
          refine ⟨by rw [b8_len, HPL.out], fun _ => ⟨_, _, rfl, fun j u hu => ?_⟩⟩
          have hj : j < 64 := by have := (List.getElem?_eq_some_iff.1 hu).1; rw [b8_len, HPL.out] at this; exact this
          rw [b8_at _ (by rw [HPL.out]; exact hj)] at hu
          rw [← Option.some.inj hu]
          exact RowV.cell hBd (strL_blk HPL.out hj)
        have hco := compress_any st hok (some ⟨w.heap.size, 8, none⟩) 64 _ wd hR HPB.out (by omega) (by omega) (HK.out.keep hbd)
        have hfit : 0 + (w32 (stL (Sha.comp st (Sha.put blk a ((nb x).take q))))).length ≤ (strLH st (Sha.put blk a ((nb x).take q)) (N + q)).length := by rw [strLH_len HPL.out, stL_len]; omega
        have hspl : splice (strLH st (Sha.put blk a ((nb x).take q)) (N + q)) 0 (w32 (stL (Sha.comp st (Sha.put blk a ((nb x).take q))))) = strLH (Sha.comp st (Sha.put blk a ((nb x).take q))) (Sha.put blk a ((nb x).take q)) (N + q) := strL_st_put _
        generalize Sha.put blk a ((nb x).take q) = bl2 at *
        generalize Sha.comp st bl2 = st2 at *
        have HCO := Lib.hid hco; have HWD := Lib.hid hwd; have HBd := Lib.hid hBd; have HZd := Lib.hid hZd; have HFT := Lib.hid hfit; have HSPL := Lib.hid hspl
        have hi8 : (Tryz.prog.info? 101).map (·.size) = some (w32 (stL st2)).length := by rw [stL_len]; kernel_rfl
        have HI8 := Lib.hid hi8
        clear hco hwd hBd hZd hR hok hfit hspl hi8
        refine wp_region_still_tail 4 (by kernel_rfl) (by kernel_rfl) ?_
        simp only [List.take_succ_cons, List.take_zero, List.drop_succ_cons, List.drop_zero]
        change wpStill _ _ (w3.setCell ⟨w.heap.size, 72, none⟩ (.int .u64 ((N : Int) + q))).drew _ _ _
        rw [← HWD.out]
        repeat still_step
        refine wpStill_nil ?_
        change wpList _ _ _ _ _ (w3.setCell ⟨w.heap.size, 72, none⟩ (.int .u64 ((N : Int) + q))).drew
        rw [← HWD.out]
        clear x0 x1 x2 x3 x4 x5 x6 x7
        go_wp2_with (first | (go_at_call 77; refine HCO.out.mono ?_; rintro e w5 ⟨rfl, hb5⟩) | (refine wpList_store_at rfl _ _ _ rfl w.heap.size 0 (w32 (stL st2)) rfl rfl _ _ (RowV.keep HBd.out hb5) HI8.out HFT.out (w32_one _) ?_))
        (try simp only [Act.put, List.setIfInBounds_toArray, List.set_cons_succ, List.set_cons_zero])
        go_roundw
        case measure =>
          rename_i t2 he2 z t1 he1
          have h1 : Value.string x = .string t1 := he1
          have h2 : Value.string (x.extract q (s.size - k)) = .string t2 := he2
          injection h1 with h1
          injection h2 with h2
          rw [← h1, ← h2, HXZ.out]; omega
        case rel =>
         refine ⟨k + q, x.extract q (s.size - k), st2, bl2, Z, by omega, rfl, HXZ.out, HXD3, Lib.hid ?_, HPB, Lib.hid ?_, Lib.hid ?_, HZL, ?_⟩
         · rw [HNK.out, ← List.append_assoc]; exact HS2.out
         · rw [HN3.out, ← HSPL.out]; exact RowV.row (RowV.keep HBd.out hb5) _
         · exact RowV.row_far (RowV.keep HZd.out hb5) _ _ (by omega)
         · exact below_setRow (hbd.trans (hb5.mono hbd.size)) (Nat.le_refl _) _
      · have e2 : ((a : Int) + q == 64) = false := by simp; omega
        have hst2 := HST.out.step ((nb x).take q) (by rw [HML.out, HXQ.out]; omega)
        rw [HML.out] at hst2
        have HS2 := Lib.hid hst2
        clear hst2
        go_wp2_with fail
        refine ⟨⟨k + q, x.extract q (s.size - k), st, Sha.put blk a ((nb x).take q), Z, by omega, rfl, HXZ.out, HXD3, Lib.hid ?_, HPB, Lib.hid ?_, HZ4, HZL, hb3.setCell (p := ⟨w.heap.size, 72, none⟩) (Nat.le_refl _) _⟩, ?_⟩
        · rw [HNK.out, ← List.append_assoc]; exact HS2.out
        · rw [HN3.out]; exact HB4.out
        · show (x.extract q (s.size - k)).size < x.size
          rw [HXZ.out]; omega
end Go.Proofs.YtcjeddichookmaaGreatDoor
namespace Go.Proofs.YtcjeddichookmaaGreatDoor
open Go.RowKit Go.Sort
set_option linter.unusedVariables false
set_option linter.unusedSimpArgs false
set_option maxRecDepth 100000
theorem byte_at (s : ByteArray) (k : Nat) (h : k < s.size) : s[k] = s.data.toList[k]'(by rw [← Lib.size_eq]; exact h) := by simp; rfl
end Go.Proofs.YtcjeddichookmaaGreatDoor
namespace Go.Proofs.YtcjeddichookmaaGreatDoor
open Go.RowKit Go.Sort
set_option linter.unusedVariables false
set_option linter.unusedSimpArgs false
set_option maxRecDepth 100000
def OwnB (l : List Nat) (w : World) (e : Ending) (w' : World) : Prop := ∃ A c, e = .returned (.slice A l.length c) ∧ w'.ownsRow w.heap.size 5 1 (.slice A l.length c) l.length (b8 l) ∧ Below w.heap.size w w'
theorem infoByte22 : (Tryz.prog.info? 5).map (fun i => (i.zero, i.size, i.bytes)) = some (some (.int .u8 0), 1, 1) := by kernel_rfl
theorem or128 (y : Nat) (hy : y < 256) : y ||| 128 = y % 128 + 128 := by
  have : ∀ y : Fin 256, y.val ||| 128 = y.val % 128 + 128 := by decide
  exact this ⟨y, hy⟩
theorem or128_bits (z : Nat) : bits .or .u8 ((z : Int) % 256) 128 = ((z % 128 + 128 : Nat) : Int) := by
  have h := u8_or_nat (z % 256) 128 (Nat.mod_lt _ (by decide)) (by decide)
  rw [or128 _ (Nat.mod_lt _ (by decide)), Nat.mod_mod_of_dvd z (by decide : 128 ∣ 256)] at h
  have e : ((z % 256 : Nat) : Int) = (z : Int) % 256 := by simp
  rw [e] at h; exact h
theorem zz_bits (n : Nat) (hn : n ≤ 4611686018427387903) : bits .xor .u64 ((n : Int) * 2) 0 = ((2 * n : Nat) : Int) := by
  have h := u64_xor_nat (2 * n) 0 (by omega) (by decide)
  rw [Nat.xor_zero] at h
  have e : ((2 * n : Nat) : Int) = (n : Int) * 2 := by omega
  rw [e] at h ⊢; exact h
set_option maxHeartbeats 4000000 in
theorem wireInt_any (n : Nat) (w : World) (hn : n ≤ 1000000000000) : Calls Tryz.prog 78 #[.int .i64 (n : Int)] w (OwnB (Sha.vint (2 * n)) w) := by
  obtain ⟨i0, hi, hz0, hz1, hz2⟩ := info_parts infoByte22
  have HI := Lib.hid (And.intro hi (And.intro hz0 (And.intro hz1 hz2)))
  clear hi hz0 hz1 hz2
  have hzz := zz_bits n (by omega)
  obtain ⟨V, hV⟩ : ∃ V, V = Sha.vint (2 * n) := ⟨_, rfl⟩
  rw [← hV]
  have HV := Lib.hid hV
  clear hV
  have e63 : (n : Int) / 9223372036854775808 = 0 := by omega
  go_enter Tryz.func78, Tryz.ntmps78
  go_wp2
  go_loopw [3, 4] (fun zv ov wr => ∃ (f z : Nat) (acc : List Nat) (A : Option Addr) (c : Nat), zv = .int .u64 (z : Int) ∧ ov = .slice A acc.length c ∧ z < 128 ^ (f + 1) ∧ f ≤ 7 ∧ acc.length + f = 7 ∧ Hid (V = acc ++ Sha.vintF (f + 3) z) ∧ wr.ownsRow w.heap.size 5 1 (.slice A acc.length c) acc.length (b8 acc) ∧ Below w.heap.size w wr) (fun zv _ _ => (intOf zv).toNat)
  case atStart =>
    refine ⟨7, 2 * n, [], none, 0, by simp, rfl, by simp; omega, by omega, rfl, Lib.hid ?_, World.ownsRow_nil _ _ _ _, Below.refl _ _⟩
    rw [HV.out]; rfl
  case round =>
    obtain ⟨f, z, acc, A, c, rfl, rfl, hz, hf, hfl, HVA, hown, hbr⟩ := hrel
    have hbs := hbr.size
    have hzb : z < 128 ^ 8 := Nat.lt_of_lt_of_le hz (Nat.pow_le_pow_right (by decide) (by omega))
    have hz0 : (0 : Int) ≤ z := by omega
    have hor := or128_bits z
    obtain ⟨k, hk⟩ : ∃ k, k = acc.length := ⟨_, rfl⟩
    have hkk : k ≤ 7 := by omega
    have HKL := Lib.hid hk
    rw [← hk] at hown ⊢
    clear hk
    by_cases h : z < 128
    · have hV1 : V = acc ++ [z] := by
        rw [HVA.out]
        show acc ++ (if z < 128 then [z] else _) = _
        rw [if_pos h]
      have d1 : decide (127 < (z : Int)) = false := by simp; omega
      have hm : (z : Int) % 256 = z := by omega
      have HV1 := Lib.hid hV1
      clear HVA hV1
      go_wp2_with (at_builtin; refine wpList_append_own _ rfl _ _ 79 rfl w.heap.size 5 i0 (.int .u8 0) 1 1 Tryz.underlying79 HI.out.1 HI.out.2.1 HI.out.2.2.1 HI.out.2.2.2 rfl (by decide) _ _ _ rfl (hown.alloc _) ⟨wr.heap.size, 0, none⟩ 1 1 [.int .u8 (z : Int)] rfl rfl (cell_one_new _ _ _) (by simp [Value.oneCell']) (by unfold maxLen; omega) (by omega) (by simp; omega) ?_; intro v' w3 hown1 hgrow1 _; obtain ⟨g1, cap1, rfl⟩ := ownsRow_succ hown1; have hb3 : Below w.heap.size w w3 := (hbr.alloc hbs _).grown hgrow1 (by simp; omega) (fun r e => ownsRow_block hown r e); have hbs3 := hb3.size; clear hown)
      go_ret
      refine ⟨some ⟨g1, 0, none⟩, cap1, ?_, ?_, hb3⟩
      · rw [HV1.out, List.length_append, ← HKL.out]; rfl
      · rw [HV1.out, List.length_append, ← HKL.out, b8_app]; exact hown1
    · have hV1 : V = (acc ++ [z % 128 + 128]) ++ Sha.vintF (f + 2) (z / 128) := by
        rw [HVA.out]
        show acc ++ (if z < 128 then [z] else (z % 128 + 128) :: Sha.vintF (f + 2) (z / 128)) = _
        rw [if_neg h, List.append_assoc]; rfl
      have d1 : decide (127 < (z : Int)) = true := by simp; omega
      have hf0 : 0 < f := by
        rcases Nat.eq_zero_or_pos f with h0 | h0
        · subst h0; simp at hz; omega
        · exact h0
      have hz2 : z / 128 < 128 ^ (f - 1 + 1) := by
        rw [show f - 1 + 1 = f by omega]
        rw [Nat.pow_succ] at hz
        exact Nat.div_lt_of_lt_mul (by rw [Nat.mul_comm]; exact hz)
      have HV1 := Lib.hid hV1
      have HZ2 := Lib.hid hz2
      clear HVA hV1 hz2 hz
      go_wp2_with (at_builtin; refine wpList_append_own _ rfl _ _ 79 rfl w.heap.size 5 i0 (.int .u8 0) 1 1 Tryz.underlying79 HI.out.1 HI.out.2.1 HI.out.2.2.1 HI.out.2.2.2 rfl (by decide) _ _ _ rfl (hown.alloc _) ⟨wr.heap.size, 0, none⟩ 1 1 [.int .u8 ((z % 128 + 128 : Nat) : Int)] rfl rfl (cell_one_new _ _ _) (by simp [Value.oneCell']) (by unfold maxLen; omega) (by omega) (by simp; omega) ?_; intro v' w3 hown1 hgrow1 _; obtain ⟨g1, cap1, rfl⟩ := ownsRow_succ hown1; have hb3 : Below w.heap.size w w3 := (hbr.alloc hbs _).grown hgrow1 (by simp; omega) (fun r e => ownsRow_block hown r e); have hbs3 := hb3.size; clear hown)
      have hal : (acc ++ [z % 128 + 128]).length = k + 1 := by rw [List.length_append, ← HKL.out]; rfl
      refine ⟨⟨f - 1, z / 128, acc ++ [z % 128 + 128], some ⟨g1, 0, none⟩, cap1, by simp, by rw [hal], HZ2.out, by omega, by rw [hal]; have := HKL.out; omega, Lib.hid ?_, ?_, hb3⟩, ?_⟩
      · rw [HV1.out, show f - 1 + 3 = f + 2 by omega]
      · rw [hal, b8_app]; exact hown1
      · simp [intOf]; omega
theorem own_slice {w : World} {base n : Nat} {e : TypeId} {v : Value} {xs : List Value} (h : w.ownsRow base e 1 v n xs) : ∃ A c, v = .slice A n c := by
  rcases h.2 with ⟨rfl, hx⟩ | ⟨g, cap, cur, rfl, _⟩
  · have := h.1
    rw [hx] at this
    have hn : n = 0 := by simp at this; omega
    subst hn
    exact ⟨none, 0, rfl⟩
  · exact ⟨_, _, rfl⟩
theorem strCells_nb (s : ByteArray) : Lib.strCells s = b8 (nb s) := txt_nb s
set_option maxHeartbeats 4000000 in
theorem wireBytes_any (s : ByteArray) (w : World) (hs : s.size ≤ 1000000000000) : Calls Tryz.prog 57 #[.string s] w (OwnB (Sha.wireB (nb s)) w) := by
  obtain ⟨i0, hi, hz0, hz1, hz2⟩ := info_parts infoByte22
  have HI := Lib.hid (And.intro hi (And.intro hz0 (And.intro hz1 hz2)))
  clear hi hz0 hz1 hz2
  have hin := wireInt_any s.size w hs
  obtain ⟨V, hV⟩ : ∃ V, V = Sha.vint (2 * s.size) := ⟨_, rfl⟩
  have hW : Sha.wireB (nb s) = V ++ nb s := by unfold Sha.wireB; rw [nb_len, hV]
  rw [← hV] at hin
  rw [hW]
  have hVl : V.length ≤ 11 := by rw [hV]; exact Sha.vint_len _
  obtain ⟨k, hk⟩ : ∃ k, k = V.length := ⟨_, rfl⟩
  have hkk : k ≤ 11 := by omega
  have HKL := Lib.hid hk
  unfold OwnB at hin
  rw [← hk] at hin
  have HIN := Lib.hid hin
  clear hin hV hW hVl hk
  go_enter Tryz.func57, Tryz.ntmps57
  go_wp2_with (first | (go_at_call 78; refine HIN.out.mono ?_; rintro e w2 ⟨A, c, rfl, hown, hb2⟩) | (at_builtin; refine Lib.wpList_append_own_string _ rfl _ _ 79 9 rfl w.heap.size 5 i0 Tryz.underlying79 Tryz.underlying9 HI.out.1 HI.out.2.1 HI.out.2.2.1 HI.out.2.2.2 _ _ _ rfl hown s rfl (by unfold maxLen; omega) (by omega) (by have := hb2.size; omega) ?_; intro v' w3 hown1 hgrow1 _))
  obtain ⟨A', c', rfl⟩ := own_slice hown1
  go_ret
  have hl : (V ++ nb s).length = k + s.size := by rw [List.length_append, nb_len, ← HKL.out]
  refine ⟨A', c', by rw [hl]; rfl, ?_, hb2.grown hgrow1 (by have := hb2.size; omega) (fun r e => ownsRow_block hown r e)⟩
  rw [hl, b8_app, ← strCells_nb]; exact hown1
end Go.Proofs.YtcjeddichookmaaGreatDoor
namespace Go.Proofs.YtcjeddichookmaaGreatDoor
open Go.RowKit Go.Sort
set_option linter.unusedVariables false
set_option linter.unusedSimpArgs false
set_option maxRecDepth 100000
def toN (l : List Nat) : ByteArray := ⟨(l.map UInt8.ofNat).toArray⟩
theorem nb_toN {l : List Nat} (h : ∀ x ∈ l, x < 256) : nb (toN l) = l := by
  unfold nb toN
  simp only [List.map_map]
  conv => rhs; rw [← List.map_id l]
  apply List.map_congr_left
  intro x hx
  have := h x hx
  simp [Nat.mod_eq_of_lt this]
theorem toN_size (l : List Nat) : (toN l).size = l.length := by simp [toN, ByteArray.size]
theorem run_text (W : World) (A : Option Addr) (n c : Nat) (l : List Nat) (hl : l.length = n) (h : ∀ x ∈ l, x < 256) (hn : 0 < n) (hR : Reads W 1 A n (b8 l)) : (convert 79 9 (.slice A n c)).run Tryz.prog W = .ok (.string (toN l)) W := by
  obtain ⟨b, o, rfl, hc⟩ := hR.2 hn
  have hL : (l.map UInt8.ofNat).length = n := by rw [List.length_map, hl]
  subst hL
  refine run_convert_bytes_back W _ _ 5 ⟨b, o, none⟩ c (l.map UInt8.ofNat) Tryz.underlying79 Tryz.underlying5 Tryz.underlying9 (fun j hj => ?_)
  have hj' : j < l.length := by simpa using hj
  have e : (⟨b, o, none⟩ : Addr).add j = ⟨b, o + j, none⟩ := by unfold Addr.add; split <;> simp_all
  rw [e, hc j _ (b8_at l hj')]
  have hx := h l[j] (List.getElem_mem hj')
  simp [List.getD_eq_getElem?_getD, List.getElem?_eq_getElem hj', Nat.mod_eq_of_lt hx]
theorem reads_own {w : World} {base n c : Nat} {A : Option Addr} {xs : List Value} (h : w.ownsRow base 5 1 (.slice A n c) n xs) : Reads w 1 A n xs := Reads.of_own h
theorem wireB_lt (s : ByteArray) (hs : s.size ≤ 1000000000000) : ∀ x ∈ Sha.wireB (nb s), x < 256 := by
  intro x hx
  unfold Sha.wireB at hx
  rcases List.mem_append.1 hx with hx | hx
  · refine Sha.vintF_lt 10 _ ?_ x hx
    rw [nb_len]
    exact Nat.lt_of_le_of_lt (by omega : 2 * s.size ≤ 2000000000000) (by decide)
  · exact nb_lt s x hx
end Go.Proofs.YtcjeddichookmaaGreatDoor
namespace Go.Proofs.YtcjeddichookmaaGreatDoor
open Go.RowKit Go.Sort
set_option linter.unusedVariables false
set_option linter.unusedSimpArgs false
set_option maxRecDepth 100000
def RPathPost (r : Option (List ByteArray)) (w : World) (e : Ending) (w' : World) : Prop :=
  Below w.heap.size w w' ∧ match r with
    | none => e = .returned (.tuple #[.slice none 0 0, .bool false])
    | some out => ∃ A c, e = .returned (.tuple #[.slice A out.length c, .bool true]) ∧ Reads w' 1 A out.length (out.map .string) ∧ (∀ a, A = some a → w.heap.size ≤ a.block)
end Go.Proofs.YtcjeddichookmaaGreatDoor
