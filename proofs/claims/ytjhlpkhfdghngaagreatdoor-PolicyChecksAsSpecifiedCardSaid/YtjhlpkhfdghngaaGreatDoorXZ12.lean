/- A message grows: the walk of Stream.Add. -/
import Derived.Test.YtjhlpkhfdghngaaGreatDoorXZ11
import Derived.Test.YtjhlpkhfdghngaaGreatDoorProg
import Derived.WalkKit
import Derived.WalkSpells
import Derived.WalkLawsBesides
import Derived.Below
import Derived.Deep.QuietTactic
import Derived.BigQuiet
import Derived.Lib.QuietBelow
import Derived.Lib.Strings
import Derived.Lib.Hide
import Derived.Deep.RegionWith
import Derived.Deep.RegionHeld3
import Derived.Lib.IndexBytes
import Derived.Test.YtjhlpkhfdghngaaGreatDoorXZ7
import Derived.Lib.AppendStr
import Derived.Test.YtjhlpkhfdghngaaGreatDoorXZ9
namespace Go.Proofs.YtjhlpkhfdghngaaGreatDoor
open Go.RowKit Go.Sort
set_option linter.unusedVariables false
set_option linter.unusedSimpArgs false
set_option maxRecDepth 100000
theorem inf64b : (Tryz.prog.info? 5).map (·.size) = some 1 := by kernel_rfl
theorem run_slice64 (W : World) (g a : Nat) (ha : a < 64) : (Instr.sliceAt 184 (.pointer (some ⟨g, 8, none⟩)) (some (.int .i64 (a : Int))) none none).run Tryz.prog W = .ok (.slice (some ⟨g, 8 + a, none⟩) (64 - a) (64 - a)) W := by
  have h1 := run_underlying Tryz.underlying184 W
  have hi := inf64b
  cases hq : Tryz.prog.info? 5 with
  | none => rw [hq] at hi; cases hi
  | some i =>
    have hs : i.size = 1 := by rw [hq] at hi; simpa using hi
    have e1 : ¬ (64 : Nat) = a := by omega
    have e2 : (a : Int) ≤ 64 := by omega
    by_cases h0 : a = 0
    · subst h0
      simp [Instr.sliceAt, h1, Instr.sureAddr, Instr.sliceBounds, run_sliceBound, sizeOf, typeInfo, hq, hs, e1, Addr.add]
    · simp [Instr.sliceAt, h1, Instr.sureAddr, Instr.sliceBounds, run_sliceBound, sizeOf, typeInfo, hq, hs, e1, e2, h0, Addr.add]
def AddPost (m : List Nat) (w : World) (e : Ending) (w' : World) : Prop := (∃ v, e = .returned v ∧ StrV m v) ∧ Below w.heap.size w w'
set_option maxHeartbeats 4000000 in
theorem add_any (m : List Nat) (v : Value) (s : ByteArray) (w : World) (hv : StrV m v) (hlen : m.length + s.size ≤ 1000000000000) (hK : Ks w) :
    Calls Tryz.prog 125 #[v, .string s] w (AddPost (m ++ nb s) w) := by
  obtain ⟨st, blk, rfl, hst, hbk⟩ := hv
  obtain ⟨X, hX⟩ : ∃ X, X = (strLH st blk m.length).toArray := ⟨_, rfl⟩
  rw [← hX]
  have HK := Lib.hid hK; have HX := Lib.hid hX; have HST := Lib.hid hst; have HBK := Lib.hid hbk
  clear hK hX hst hbk
  go_enter Tryz.func125, Tryz.ntmps125
  go_wp2
  go_loopw [1] (fun v wr => ∃ (k : Nat) (x : ByteArray) (st : Sha.St) (blk : List Nat) (Z : List Value), k ≤ s.size ∧ v = .string x ∧ x.size = s.size - k ∧ Hid (x.data.toList = s.data.toList.drop k) ∧ Hid (Sha.Str (m ++ (nb s).take k) st blk) ∧ Hid (∀ y ∈ blk, y < 256) ∧ Hid (RowV wr w.heap.size 187 (strLH st blk (m.length + k))) ∧ Hid (RowV wr (w.heap.size + 1) 187 Z) ∧ Hid (Z.length = 73) ∧ Below w.heap.size w wr) (fun v _ => match v with | .string t => t.size | _ => 0)
  case atStart =>
    refine ⟨0, s, st, blk, Tryz.zeroCells187.toList, by omega, rfl, by omega, Lib.hid rfl, Lib.hid ?_, HBK, Lib.hid ?_, Lib.hid ?_, Lib.hid ?_, belB⟩
    · rw [List.take_zero, List.append_nil]; exact HST.out
    · have := HX.out
      rw [Nat.add_zero]
      exact (heap_alloc2_old w _ _).trans (by rw [this])
    · exact (heap_alloc2_new w _ _).trans (by simp)
    · kernel_rfl
  case round =>
    obtain ⟨k, x, st, blk, Z, hk, rfl, hxs, HXD, HST, HBK, HB, HZ, HZL, hb⟩ := hrel
    clear HX
    by_cases h0 : x.size = 0
    · have e1 : x.toList.isEmpty = true := by
        rw [Lib.toList_data, List.isEmpty_iff]
        exact List.eq_nil_of_length_eq_zero (by rw [← Lib.size_eq]; exact h0)
      have hks : k = s.size := by omega
      have hall : (nb s).take k = nb s := List.take_of_length_le (by rw [nb_len]; omega)
      have hst2 := HST.out
      rw [hall] at hst2
      have hml : (m ++ nb s).length = m.length + k := by rw [List.length_append, nb_len, hks]
      have hl73 : (strLH st blk (m.length + k)).toArray.size = 73 := by rw [List.size_toArray, strLH_len hst2.len]
      have hi : (Tryz.prog.info? 187).map (·.size) = some (strLH st blk (m.length + k)).toArray.size := by rw [hl73]; kernel_rfl
      have hz : Z.toArray.size = (strLH st blk (m.length + k)).toArray.size := by rw [hl73, List.size_toArray]; exact HZL.out
      have h1 : (strLH st blk (m.length + k)).toArray.all (·.oneCell') = true := by rw [List.all_toArray, List.all_eq_true]; exact strL_one
      have hB : wr.heap[w.heap.size]? = some (.cells (strLH st blk (m.length + k)).toArray 187 (0, 0)) := HB.out
      have hv : StrV (m ++ nb s) (.agg (strLH st blk (m.length + k)).toArray) := ⟨st, blk, by rw [hml], hst2, HBK.out⟩
      have HI := Lib.hid hi; have HZS := Lib.hid hz; have H1 := Lib.hid h1; have HBB := Lib.hid hB; have HV := Lib.hid hv
      clear hks hall hst2 hml hl73 hi hz h1 hB hv HB HST HBK
      generalize (strLH st blk (m.length + k)).toArray = Y at *
      go_wp2_with (first | (refine wpList_load_row rfl _ _ rfl w.heap.size rfl _ Y (0, 0) _ HBB.out Tryz.underlying187 rfl HI.out ?_) | (refine wpList_store_row rfl _ _ _ rfl (w.heap.size + 1) Y rfl rfl _ _ HZ.out HI.out HZS.out H1.out ?_))
      refine bodyPost_ret (v := .agg Y) ?_ rfl ⟨⟨_, rfl, HV.out⟩, ?_⟩
      · exact results_cell_row rfl _ _ (w.heap.size + 1) _ _ (0, 0) _ rfl (setRow_heap _ _ _ _ _ _ HZ.out) Tryz.underlying187 rfl HI.out
      · exact below_setRow hb (by omega) _
    · have e1 : x.toList.isEmpty = false := by
        rw [Lib.toList_data]
        cases h : x.data.toList with
        | nil => exact absurd (by rw [Lib.size_eq, h]; rfl) h0
        | cons a l => rfl
      obtain ⟨N, hN⟩ : ∃ N, N = m.length + k := ⟨_, rfl⟩
      rw [← hN] at HB
      have hN2 : N ≤ 1000000000000 := by omega
      obtain ⟨a, ha⟩ : ∃ a, a = N % 64 := ⟨_, rfl⟩
      have ha64 : a < 64 := by omega
      have haN : (N : Int) % 64 = (a : Int) := by omega
      obtain ⟨q, hq⟩ : ∃ q, q = Nat.min x.size (64 - a) := ⟨_, rfl⟩
      have hq1 : q ≤ x.size := by rw [hq]; exact Nat.min_le_left _ _
      have hq2 : q ≤ 64 - a := by rw [hq]; exact Nat.min_le_right _ _
      have hq3 : 0 < q := by rw [hq]; exact Nat.lt_min.2 ⟨by omega, by omega⟩
      have hbl : blk.length = 64 := HST.out.len
      have cn : wr.cell? ⟨w.heap.size, 72, none⟩ = some (.int .u64 (N : Int)) := RowV.cell HB.out (strL_n hbl)
      have HN := Lib.hid hN; have HA := Lib.hid ha; have HQ := Lib.hid hq; have HBL := Lib.hid hbl
      clear hN ha hq hbl
      have hcs : (txtCells x).take q = b8 ((nb x).take q) := by rw [txt_nb, b8_take]
      have hcl : ((txtCells x).take q).length = q := by rw [List.length_take, txtCells_len]; omega
      have hfit : 8 + a + ((txtCells x).take q).length ≤ (strLH st blk N).length := by rw [hcl, strLH_len HBL.out]; omega
      have hsp : splice (strLH st blk N) (8 + a) ((txtCells x).take q) = strLH st (Sha.put blk a ((nb x).take q)) N := by
        rw [hcs]; exact strL_put HBL.out (by rw [List.length_take, nb_len]; omega)
      have hqm : (txtCells x).take q = (txtCells x).take (Nat.min x.size (64 - a)) := by rw [HQ.out]
      obtain ⟨cs, hcs2⟩ : ∃ cs, cs = (txtCells x).take q := ⟨_, rfl⟩
      rw [← hcs2] at hcl hfit hsp hqm
      have HCL := Lib.hid hcl; have HF := Lib.hid hfit; have HSP := Lib.hid hsp; have HQM := Lib.hid hqm
      clear hcs hcl hfit hsp hqm hcs2
      have hsl : ∀ W, (Instr.sliceAt 184 (.pointer (some ⟨w.heap.size, 8, none⟩)) (some (.int .i64 (a : Int))) none none).run Tryz.prog W = .ok (.slice (some ⟨w.heap.size, 8 + a, none⟩) (64 - a) (64 - a)) W := fun W => run_slice64 W w.heap.size a ha64
      go_upto_region 4 with (refine wpList_copy_str rfl _ _ _ _ rfl 5 Tryz.underlying173 (by kernel_rfl) w.heap.size (8 + a) (64 - a) (64 - a) x rfl rfl (strLH st blk N) _ HB.out cs HQM.out HF.out q HCL.out ?_)
      obtain ⟨w3, hw3⟩ : ∃ x : World, x = wr.setRow w.heap.size (splice (strLH st blk N) (8 + a) cs).toArray := ⟨_, rfl⟩
      rw [← hw3]
      have hB3 : RowV w3 w.heap.size 187 (strLH st (Sha.put blk a ((nb x).take q)) N) := by rw [hw3, ← HSP.out]; exact RowV.row HB.out _
      have hZ3 : RowV w3 (w.heap.size + 1) 187 Z := by rw [hw3]; exact RowV.row_far HZ.out _ _ (by omega)
      have hb3 : Below w.heap.size w w3 := by rw [hw3]; exact below_setRow hb (Nat.le_refl _) _
      clear hw3 cn
      have hpl : (Sha.put blk a ((nb x).take q)).length = 64 := by rw [Sha.put_len (by rw [List.length_take, nb_len, HBL.out]; omega)]; exact HBL.out
      have hpb : ∀ y ∈ Sha.put blk a ((nb x).take q), y < 256 := put_lt HBK.out fun z hz => nb_lt x z (List.mem_of_mem_take hz)
      have hnk : (nb s).take (k + q) = (nb s).take k ++ (nb x).take q := by
        have : nb x = (nb s).drop k := by unfold nb; rw [HXD.out, List.map_drop]
        rw [this, List.take_add]
      have hml : (m ++ (nb s).take k).length % 64 = a := by rw [HA.out, HN.out, List.length_append, List.length_take, nb_len, Nat.min_eq_left hk]
      have hN3 : m.length + (k + q) = N + q := by rw [HN.out]; omega
      have hxq : ((nb x).take q).length = q := by rw [List.length_take, nb_len]; omega
      have hxd : (x.extract q (s.size - k)).data.toList = s.data.toList.drop (k + q) := by
        rw [show s.size - k = x.size by omega, Lib.extract_to_end, HXD.out, List.drop_drop]
      have hxz : (x.extract q (s.size - k)).size = s.size - (k + q) := by rw [ByteArray.size_extract]; omega
      have c3 : w3.cell? ⟨w.heap.size, 72, none⟩ = some (.int .u64 (N : Int)) := RowV.cell hB3 (strL_n hpl)
      have f3 : w3.frozen? ⟨w.heap.size, 72, none⟩ = false := RowV.free hB3 72
      have hq0 : (0 : Int) ≤ q := by omega
      have hz3 : w.heap.size + 1 < w3.heap.size := RowV.lt hZ3
      have HB3 := Lib.hid hB3; have HZ3 := Lib.hid hZ3; have HPL := Lib.hid hpl; have HPB := Lib.hid hpb; have HNK := Lib.hid hnk; have HML := Lib.hid hml; have HN3 := Lib.hid hN3; have HXQ := Lib.hid hxq; have HXD3 := Lib.hid hxd; have HXZ := Lib.hid hxz
      clear hB3 hZ3 hpl hpb hnk hml hN3 hxq hxd hxz HB HZ HSP HQM HF HCL
      have hn3 : ((N : Int) + q) = ((N + q : Nat) : Int) := by omega
      have hB4 : RowV (w3.setCell ⟨w.heap.size, 72, none⟩ (.int .u64 ((N : Int) + q))) w.heap.size 187 (strLH st (Sha.put blk a ((nb x).take q)) (N + q)) := by
        rw [hn3, ← strL_set (n := N) HPL.out (N + q)]; exact RowV.set_ HB3.out 72 _
      have hZ4 : RowV (w3.setCell ⟨w.heap.size, 72, none⟩ (.int .u64 ((N : Int) + q))) (w.heap.size + 1) 187 Z := RowV.far HZ3.out _ _ (by simp)
      have HB4 := Lib.hid hB4; have HZ4 := Lib.hid hZ4
      clear hn3 hB4 hZ4
      by_cases hf : a + q = 64
      · have e2 : ((a : Int) + q == 64) = true := by simp; omega
        have hst2 := HST.out.full ((nb x).take q) (by rw [HML.out, HXQ.out]; exact hf)
        rw [HML.out] at hst2
        have hok := HST.out.ok
        have HS2 := Lib.hid hst2
        clear hst2
        go_wp2_with fail
        obtain ⟨wd, hwd⟩ : ∃ y : World, y = (w3.setCell ⟨w.heap.size, 72, none⟩ (.int .u64 ((N : Int) + q))).drew := ⟨_, rfl⟩
        have hBd : RowV wd w.heap.size 187 (strLH st (Sha.put blk a ((nb x).take q)) (N + q)) := by rw [hwd]; exact HB4.out
        have hZd : RowV wd (w.heap.size + 1) 187 Z := by rw [hwd]; exact HZ4.out
        have hbd : Below w.heap.size w wd := by rw [hwd]; exact (hb3.setCell (p := ⟨w.heap.size, 72, none⟩) (Nat.le_refl _) _).drew
        have x0 : wd.cell? ⟨w.heap.size, 0, none⟩ = some (.int .u32 (st.a : Int)) := RowV.cell hBd (strL_st rfl)
        have x1 : wd.cell? ⟨w.heap.size, 1, none⟩ = some (.int .u32 (st.b : Int)) := RowV.cell hBd (strL_st rfl)
        have x2 : wd.cell? ⟨w.heap.size, 2, none⟩ = some (.int .u32 (st.c : Int)) := RowV.cell hBd (strL_st rfl)
        have x3 : wd.cell? ⟨w.heap.size, 3, none⟩ = some (.int .u32 (st.d : Int)) := RowV.cell hBd (strL_st rfl)
        have x4 : wd.cell? ⟨w.heap.size, 4, none⟩ = some (.int .u32 (st.e : Int)) := RowV.cell hBd (strL_st rfl)
        have x5 : wd.cell? ⟨w.heap.size, 5, none⟩ = some (.int .u32 (st.f : Int)) := RowV.cell hBd (strL_st rfl)
        have x6 : wd.cell? ⟨w.heap.size, 6, none⟩ = some (.int .u32 (st.g : Int)) := RowV.cell hBd (strL_st rfl)
        have x7 : wd.cell? ⟨w.heap.size, 7, none⟩ = some (.int .u32 (st.h : Int)) := RowV.cell hBd (strL_st rfl)
        have hR : Reads wd 1 (some ⟨w.heap.size, 8, none⟩) 64 (b8 (Sha.put blk a ((nb x).take q))) := by
          refine ⟨by rw [b8_len, HPL.out], fun _ => ⟨_, _, rfl, fun j u hu => ?_⟩⟩
          have hj : j < 64 := by have := (List.getElem?_eq_some_iff.1 hu).1; rw [b8_len, HPL.out] at this; exact this
          rw [b8_at _ (by rw [HPL.out]; exact hj)] at hu
          rw [← Option.some.inj hu]
          exact RowV.cell hBd (strL_blk HPL.out hj)
        have hco := compress_any st hok (some ⟨w.heap.size, 8, none⟩) 64 _ wd hR HPB.out (by omega) (by omega) (HK.out.keep hbd)
        have hfit : 0 + (w32 (stL (Sha.comp st (Sha.put blk a ((nb x).take q))))).length ≤ (strLH st (Sha.put blk a ((nb x).take q)) (N + q)).length := by rw [strLH_len HPL.out, stL_len]; omega
        have hspl : splice (strLH st (Sha.put blk a ((nb x).take q)) (N + q)) 0 (w32 (stL (Sha.comp st (Sha.put blk a ((nb x).take q))))) = strLH (Sha.comp st (Sha.put blk a ((nb x).take q))) (Sha.put blk a ((nb x).take q)) (N + q) := strL_st_put _
        generalize Sha.put blk a ((nb x).take q) = bl2 at *
        generalize Sha.comp st bl2 = st2 at *
        have HCO := Lib.hid hco; have HWD := Lib.hid hwd; have HBd := Lib.hid hBd; have HZd := Lib.hid hZd; have HFT := Lib.hid hfit; have HSPL := Lib.hid hspl
        have hi8 : (Tryz.prog.info? 183).map (·.size) = some (w32 (stL st2)).length := by rw [stL_len]; kernel_rfl
        have HI8 := Lib.hid hi8
        clear hco hwd hBd hZd hR hok hfit hspl hi8
        refine wp_region_still_tail 4 (by kernel_rfl) (by kernel_rfl) ?_
        simp only [List.take_succ_cons, List.take_zero, List.drop_succ_cons, List.drop_zero]
        change wpStill _ _ (w3.setCell ⟨w.heap.size, 72, none⟩ (.int .u64 ((N : Int) + q))).drew _ _ _
        rw [← HWD.out]
        repeat still_step
        refine wpStill_nil ?_
        change wpList _ _ _ _ _ (w3.setCell ⟨w.heap.size, 72, none⟩ (.int .u64 ((N : Int) + q))).drew
        rw [← HWD.out]
        clear x0 x1 x2 x3 x4 x5 x6 x7
        go_wp2_with (first | (go_at_call 196; refine HCO.out.mono ?_; rintro e w5 ⟨rfl, hb5⟩) | (refine wpList_store_at rfl _ _ _ rfl w.heap.size 0 (w32 (stL st2)) rfl rfl _ _ (RowV.keep HBd.out hb5) HI8.out HFT.out (w32_one _) ?_))
        (try simp only [Act.put, List.setIfInBounds_toArray, List.set_cons_succ, List.set_cons_zero])
        go_roundw
        case measure =>
          rename_i t2 he2 z t1 he1
          have h1 : Value.string x = .string t1 := he1
          have h2 : Value.string (x.extract q (s.size - k)) = .string t2 := he2
          injection h1 with h1
          injection h2 with h2
          rw [← h1, ← h2, HXZ.out]; omega
        case rel =>
         refine ⟨k + q, x.extract q (s.size - k), st2, bl2, Z, by omega, rfl, HXZ.out, HXD3, Lib.hid ?_, HPB, Lib.hid ?_, Lib.hid ?_, HZL, ?_⟩
         · rw [HNK.out, ← List.append_assoc]; exact HS2.out
         · rw [HN3.out, ← HSPL.out]; exact RowV.row (RowV.keep HBd.out hb5) _
         · exact RowV.row_far (RowV.keep HZd.out hb5) _ _ (by omega)
         · exact below_setRow (hbd.trans (hb5.mono hbd.size)) (Nat.le_refl _) _
      · have e2 : ((a : Int) + q == 64) = false := by simp; omega
        have hst2 := HST.out.step ((nb x).take q) (by rw [HML.out, HXQ.out]; omega)
        rw [HML.out] at hst2
        have HS2 := Lib.hid hst2
        clear hst2
        go_wp2_with fail
        refine ⟨⟨k + q, x.extract q (s.size - k), st, Sha.put blk a ((nb x).take q), Z, by omega, rfl, HXZ.out, HXD3, Lib.hid ?_, HPB, Lib.hid ?_, HZ4, HZL, hb3.setCell (p := ⟨w.heap.size, 72, none⟩) (Nat.le_refl _) _⟩, ?_⟩
        · rw [HNK.out, ← List.append_assoc]; exact HS2.out
        · rw [HN3.out]; exact HB4.out
        · show (x.extract q (s.size - k)).size < x.size
          rw [HXZ.out]; omega
end Go.Proofs.YtjhlpkhfdghngaaGreatDoor
namespace Go.Proofs.YtjhlpkhfdghngaaGreatDoor
open Go.RowKit Go.Sort
set_option linter.unusedVariables false
set_option linter.unusedSimpArgs false
set_option maxRecDepth 100000
def OwnB (l : List Nat) (w : World) (e : Ending) (w' : World) : Prop := ∃ A c, e = .returned (.slice A l.length c) ∧ w'.ownsRow w.heap.size 5 1 (.slice A l.length c) l.length (b8 l) ∧ Below w.heap.size w w'
theorem infoByte22 : (Tryz.prog.info? 5).map (fun i => (i.zero, i.size, i.bytes)) = some (some (.int .u8 0), 1, 1) := by kernel_rfl
theorem or128 (y : Nat) (hy : y < 256) : y ||| 128 = y % 128 + 128 := by
  have : ∀ y : Fin 256, y.val ||| 128 = y.val % 128 + 128 := by decide
  exact this ⟨y, hy⟩
theorem or128_bits (z : Nat) : bits .or .u8 ((z : Int) % 256) 128 = ((z % 128 + 128 : Nat) : Int) := by
  have h := u8_or_nat (z % 256) 128 (Nat.mod_lt _ (by decide)) (by decide)
  rw [or128 _ (Nat.mod_lt _ (by decide)), Nat.mod_mod_of_dvd z (by decide : 128 ∣ 256)] at h
  have e : ((z % 256 : Nat) : Int) = (z : Int) % 256 := by simp
  rw [e] at h; exact h
theorem zz_bits (n : Nat) (hn : n ≤ 4611686018427387903) : bits .xor .u64 ((n : Int) * 2) 0 = ((2 * n : Nat) : Int) := by
  have h := u64_xor_nat (2 * n) 0 (by omega) (by decide)
  rw [Nat.xor_zero] at h
  have e : ((2 * n : Nat) : Int) = (n : Int) * 2 := by omega
  rw [e] at h ⊢; exact h
set_option maxHeartbeats 4000000 in
theorem wireInt_any (n : Nat) (w : World) (hn : n ≤ 1000000000000) : Calls Tryz.prog 197 #[.int .i64 (n : Int)] w (OwnB (Sha.vint (2 * n)) w) := by
  obtain ⟨i0, hi, hz0, hz1, hz2⟩ := info_parts infoByte22
  have HI := Lib.hid (And.intro hi (And.intro hz0 (And.intro hz1 hz2)))
  clear hi hz0 hz1 hz2
  have hzz := zz_bits n (by omega)
  obtain ⟨V, hV⟩ : ∃ V, V = Sha.vint (2 * n) := ⟨_, rfl⟩
  rw [← hV]
  have HV := Lib.hid hV
  clear hV
  have e63 : (n : Int) / 9223372036854775808 = 0 := by omega
  go_enter Tryz.func197, Tryz.ntmps197
  go_wp2
  go_loopw [3, 4] (fun zv ov wr => ∃ (f z : Nat) (acc : List Nat) (A : Option Addr) (c : Nat), zv = .int .u64 (z : Int) ∧ ov = .slice A acc.length c ∧ z < 128 ^ (f + 1) ∧ f ≤ 7 ∧ acc.length + f = 7 ∧ Hid (V = acc ++ Sha.vintF (f + 3) z) ∧ wr.ownsRow w.heap.size 5 1 (.slice A acc.length c) acc.length (b8 acc) ∧ Below w.heap.size w wr) (fun zv _ _ => (intOf zv).toNat)
  case atStart =>
    refine ⟨7, 2 * n, [], none, 0, by simp, rfl, by simp; omega, by omega, rfl, Lib.hid ?_, World.ownsRow_nil _ _ _ _, Below.refl _ _⟩
    rw [HV.out]; rfl
  case round =>
    obtain ⟨f, z, acc, A, c, rfl, rfl, hz, hf, hfl, HVA, hown, hbr⟩ := hrel
    have hbs := hbr.size
    have hzb : z < 128 ^ 8 := Nat.lt_of_lt_of_le hz (Nat.pow_le_pow_right (by decide) (by omega))
    have hz0 : (0 : Int) ≤ z := by omega
    have hor := or128_bits z
    obtain ⟨k, hk⟩ : ∃ k, k = acc.length := ⟨_, rfl⟩
    have hkk : k ≤ 7 := by omega
    have HKL := Lib.hid hk
    rw [← hk] at hown ⊢
    clear hk
    by_cases h : z < 128
    · have hV1 : V = acc ++ [z] := by
        rw [HVA.out]
        show acc ++ (if z < 128 then [z] else _) = _
        rw [if_pos h]
      have d1 : decide (127 < (z : Int)) = false := by simp; omega
      have hm : (z : Int) % 256 = z := by omega
      have HV1 := Lib.hid hV1
      clear HVA hV1
      go_wp2_with (at_builtin; refine wpList_append_own _ rfl _ _ 173 rfl w.heap.size 5 i0 (.int .u8 0) 1 1 Tryz.underlying173 HI.out.1 HI.out.2.1 HI.out.2.2.1 HI.out.2.2.2 rfl (by decide) _ _ _ rfl (hown.alloc _) ⟨wr.heap.size, 0, none⟩ 1 1 [.int .u8 (z : Int)] rfl rfl (cell_one_new _ _ _) (by simp [Value.oneCell']) (by unfold maxLen; omega) (by omega) (by simp; omega) ?_; intro v' w3 hown1 hgrow1 _; obtain ⟨g1, cap1, rfl⟩ := ownsRow_succ hown1; have hb3 : Below w.heap.size w w3 := (hbr.alloc hbs _).grown hgrow1 (by simp; omega) (fun r e => ownsRow_block hown r e); have hbs3 := hb3.size; clear hown)
      go_ret
      refine ⟨some ⟨g1, 0, none⟩, cap1, ?_, ?_, hb3⟩
      · rw [HV1.out, List.length_append, ← HKL.out]; rfl
      · rw [HV1.out, List.length_append, ← HKL.out, b8_app]; exact hown1
    · have hV1 : V = (acc ++ [z % 128 + 128]) ++ Sha.vintF (f + 2) (z / 128) := by
        rw [HVA.out]
        show acc ++ (if z < 128 then [z] else (z % 128 + 128) :: Sha.vintF (f + 2) (z / 128)) = _
        rw [if_neg h, List.append_assoc]; rfl
      have d1 : decide (127 < (z : Int)) = true := by simp; omega
      have hf0 : 0 < f := by
        rcases Nat.eq_zero_or_pos f with h0 | h0
        · subst h0; simp at hz; omega
        · exact h0
      have hz2 : z / 128 < 128 ^ (f - 1 + 1) := by
        rw [show f - 1 + 1 = f by omega]
        rw [Nat.pow_succ] at hz
        exact Nat.div_lt_of_lt_mul (by rw [Nat.mul_comm]; exact hz)
      have HV1 := Lib.hid hV1
      have HZ2 := Lib.hid hz2
      clear HVA hV1 hz2 hz
      go_wp2_with (at_builtin; refine wpList_append_own _ rfl _ _ 173 rfl w.heap.size 5 i0 (.int .u8 0) 1 1 Tryz.underlying173 HI.out.1 HI.out.2.1 HI.out.2.2.1 HI.out.2.2.2 rfl (by decide) _ _ _ rfl (hown.alloc _) ⟨wr.heap.size, 0, none⟩ 1 1 [.int .u8 ((z % 128 + 128 : Nat) : Int)] rfl rfl (cell_one_new _ _ _) (by simp [Value.oneCell']) (by unfold maxLen; omega) (by omega) (by simp; omega) ?_; intro v' w3 hown1 hgrow1 _; obtain ⟨g1, cap1, rfl⟩ := ownsRow_succ hown1; have hb3 : Below w.heap.size w w3 := (hbr.alloc hbs _).grown hgrow1 (by simp; omega) (fun r e => ownsRow_block hown r e); have hbs3 := hb3.size; clear hown)
      have hal : (acc ++ [z % 128 + 128]).length = k + 1 := by rw [List.length_append, ← HKL.out]; rfl
      refine ⟨⟨f - 1, z / 128, acc ++ [z % 128 + 128], some ⟨g1, 0, none⟩, cap1, by simp, by rw [hal], HZ2.out, by omega, by rw [hal]; have := HKL.out; omega, Lib.hid ?_, ?_, hb3⟩, ?_⟩
      · rw [HV1.out, show f - 1 + 3 = f + 2 by omega]
      · rw [hal, b8_app]; exact hown1
      · simp [intOf]; omega
theorem own_slice {w : World} {base n : Nat} {e : TypeId} {v : Value} {xs : List Value} (h : w.ownsRow base e 1 v n xs) : ∃ A c, v = .slice A n c := by
  rcases h.2 with ⟨rfl, hx⟩ | ⟨g, cap, cur, rfl, _⟩
  · have := h.1
    rw [hx] at this
    have hn : n = 0 := by simp at this; omega
    subst hn
    exact ⟨none, 0, rfl⟩
  · exact ⟨_, _, rfl⟩
theorem strCells_nb (s : ByteArray) : Lib.strCells s = b8 (nb s) := txt_nb s
set_option maxHeartbeats 4000000 in
theorem wireBytes_any (s : ByteArray) (w : World) (hs : s.size ≤ 1000000000000) : Calls Tryz.prog 126 #[.string s] w (OwnB (Sha.wireB (nb s)) w) := by
  obtain ⟨i0, hi, hz0, hz1, hz2⟩ := info_parts infoByte22
  have HI := Lib.hid (And.intro hi (And.intro hz0 (And.intro hz1 hz2)))
  clear hi hz0 hz1 hz2
  have hin := wireInt_any s.size w hs
  obtain ⟨V, hV⟩ : ∃ V, V = Sha.vint (2 * s.size) := ⟨_, rfl⟩
  have hW : Sha.wireB (nb s) = V ++ nb s := by unfold Sha.wireB; rw [nb_len, hV]
  rw [← hV] at hin
  rw [hW]
  have hVl : V.length ≤ 11 := by rw [hV]; exact Sha.vint_len _
  obtain ⟨k, hk⟩ : ∃ k, k = V.length := ⟨_, rfl⟩
  have hkk : k ≤ 11 := by omega
  have HKL := Lib.hid hk
  unfold OwnB at hin
  rw [← hk] at hin
  have HIN := Lib.hid hin
  clear hin hV hW hVl hk
  go_enter Tryz.func126, Tryz.ntmps126
  go_wp2_with (first | (go_at_call 197; refine HIN.out.mono ?_; rintro e w2 ⟨A, c, rfl, hown, hb2⟩) | (at_builtin; refine Lib.wpList_append_own_string _ rfl _ _ 173 9 rfl w.heap.size 5 i0 Tryz.underlying173 Tryz.underlying9 HI.out.1 HI.out.2.1 HI.out.2.2.1 HI.out.2.2.2 _ _ _ rfl hown s rfl (by unfold maxLen; omega) (by omega) (by have := hb2.size; omega) ?_; intro v' w3 hown1 hgrow1 _))
  obtain ⟨A', c', rfl⟩ := own_slice hown1
  go_ret
  have hl : (V ++ nb s).length = k + s.size := by rw [List.length_append, nb_len, ← HKL.out]
  refine ⟨A', c', by rw [hl]; rfl, ?_, hb2.grown hgrow1 (by have := hb2.size; omega) (fun r e => ownsRow_block hown r e)⟩
  rw [hl, b8_app, ← strCells_nb]; exact hown1
end Go.Proofs.YtjhlpkhfdghngaaGreatDoor
namespace Go.Proofs.YtjhlpkhfdghngaaGreatDoor
open Go.RowKit Go.Sort
set_option linter.unusedVariables false
set_option linter.unusedSimpArgs false
set_option maxRecDepth 100000
def toN (l : List Nat) : ByteArray := ⟨(l.map UInt8.ofNat).toArray⟩
theorem nb_toN {l : List Nat} (h : ∀ x ∈ l, x < 256) : nb (toN l) = l := by
  unfold nb toN
  simp only [List.map_map]
  conv => rhs; rw [← List.map_id l]
  apply List.map_congr_left
  intro x hx
  have := h x hx
  simp [Nat.mod_eq_of_lt this]
theorem toN_size (l : List Nat) : (toN l).size = l.length := by simp [toN, ByteArray.size]
theorem run_text (W : World) (A : Option Addr) (n c : Nat) (l : List Nat) (hl : l.length = n) (h : ∀ x ∈ l, x < 256) (hn : 0 < n) (hR : Reads W 1 A n (b8 l)) : (convert 173 9 (.slice A n c)).run Tryz.prog W = .ok (.string (toN l)) W := by
  obtain ⟨b, o, rfl, hc⟩ := hR.2 hn
  have hL : (l.map UInt8.ofNat).length = n := by rw [List.length_map, hl]
  subst hL
  refine run_convert_bytes_back W _ _ 5 ⟨b, o, none⟩ c (l.map UInt8.ofNat) Tryz.underlying173 Tryz.underlying5 Tryz.underlying9 (fun j hj => ?_)
  have hj' : j < l.length := by simpa using hj
  have e : (⟨b, o, none⟩ : Addr).add j = ⟨b, o + j, none⟩ := by unfold Addr.add; split <;> simp_all
  rw [e, hc j _ (b8_at l hj')]
  have hx := h l[j] (List.getElem_mem hj')
  simp [List.getD_eq_getElem?_getD, List.getElem?_eq_getElem hj', Nat.mod_eq_of_lt hx]
theorem reads_own {w : World} {base n c : Nat} {A : Option Addr} {xs : List Value} (h : w.ownsRow base 5 1 (.slice A n c) n xs) : Reads w 1 A n xs := Reads.of_own h
theorem wireB_lt (s : ByteArray) (hs : s.size ≤ 1000000000000) : ∀ x ∈ Sha.wireB (nb s), x < 256 := by
  intro x hx
  unfold Sha.wireB at hx
  rcases List.mem_append.1 hx with hx | hx
  · refine Sha.vintF_lt 10 _ ?_ x hx
    rw [nb_len]
    exact Nat.lt_of_le_of_lt (by omega : 2 * s.size ≤ 2000000000000) (by decide)
  · exact nb_lt s x hx
end Go.Proofs.YtjhlpkhfdghngaaGreatDoor
namespace Go.Proofs.YtjhlpkhfdghngaaGreatDoor
open Go.RowKit Go.Sort
set_option linter.unusedVariables false
set_option linter.unusedSimpArgs false
set_option maxRecDepth 100000
def preN (n : Nat) (S : List Nat) (t : Nat) : List Nat := S.take t ++ List.replicate (n - t) 0
section
variable {n : Nat} {S : List Nat}
theorem preN_succ (hS : S.length = n) {t : Nat} (ht : t < n) : (preN n S t).set t (S.getD t 0) = preN n S (t + 1) := by
  unfold preN
  have hl : (S.take t).length = t := by rw [List.length_take]; omega
  rw [List.set_append_right _ _ (by omega), hl, Nat.sub_self, show n - t = (n - (t + 1)) + 1 by omega, List.replicate_succ, List.set_cons_zero, List.take_add_one, List.getElem?_eq_getElem (by omega)]
  rw [List.getD_eq_getElem?_getD, List.getElem?_eq_getElem (by omega)]
  rw [List.append_assoc]; rfl
theorem preN_len (hS : S.length = n) {t : Nat} (ht : t ≤ n) : (preN n S t).length = n := by unfold preN; simp [hS]; omega
theorem preN_all (hS : S.length = n) : preN n S n = S := by unfold preN; rw [List.take_of_length_le (by omega)]; simp
end
theorem b8_set (L : List Nat) (k v : Nat) : b8 (L.set k v) = (b8 L).set k (.int .u8 (v : Int)) := by simp [b8, List.map_set]
theorem out_at (s : Sha.St) {q r : Nat} (hq : q < 8) (hr : r < 4) : (Sha.out s).getD (4 * q + r) 0 = (Sha.bytes4 ((stL s).getD q 0)).getD r 0 := by
  have h1 : q = 0 ∨ q = 1 ∨ q = 2 ∨ q = 3 ∨ q = 4 ∨ q = 5 ∨ q = 6 ∨ q = 7 := by omega
  have h2 : r = 0 ∨ r = 1 ∨ r = 2 ∨ r = 3 := by omega
  rcases h1 with rfl | rfl | rfl | rfl | rfl | rfl | rfl | rfl <;> rcases h2 with rfl | rfl | rfl | rfl <;> rfl
theorem stL_lt {s : Sha.St} (h : Sha.Ok s) (q : Nat) : (stL s).getD q 0 < 4294967296 := by
  obtain ⟨h0, h1, h2, h3, h4, h5, h6, h7⟩ := h
  unfold stL
  match q with
  | 0 => exact h0
  | 1 => exact h1
  | 2 => exact h2
  | 3 => exact h3
  | 4 => exact h4
  | 5 => exact h5
  | 6 => exact h6
  | 7 => exact h7
  | _ + 8 => exact (by decide : 0 < 4294967296)
theorem bytes8_len (x : Nat) : (Sha.bytes8 x).length = 8 := rfl
theorem own_one (w : World) (base x : Nat) (hb : base ≤ w.heap.size) : (w.alloc (.cells #[.int .u8 (x : Int)] 5)).ownsRow base 5 1 (.slice (some ⟨w.heap.size, 0, none⟩) 1 1) 1 (b8 [x]) :=
  ⟨rfl, .inr ⟨w.heap.size, 1, #[.int .u8 (x : Int)], rfl, hb, heap_alloc_new w _, Nat.le_refl _, by decide, rfl, rfl⟩⟩
theorem own_next {w : World} {base n j k : Nat} {v : Value} {P S : List Nat} {x : Int} (h : w.ownsRow base 5 1 v k (b8 (P ++ S.take j) ++ [.int .u8 x])) (hk : k = n + (j + 1)) (hx : x = ((S.getD j 0 : Nat) : Int)) (hj : j < S.length) :
    w.ownsRow base 5 1 v (n + (j + 1)) (b8 (P ++ S.take (j + 1))) := by
  rw [hk, hx] at h
  have e : b8 (P ++ S.take (j + 1)) = b8 (P ++ S.take j) ++ [.int .u8 ((S.getD j 0 : Nat) : Int)] := by
    rw [List.take_add_one, List.getElem?_eq_getElem hj, List.getD_eq_getElem?_getD, List.getElem?_eq_getElem hj, ← List.append_assoc, b8_app]; rfl
  rw [e]; exact h
theorem bytes8_lt {x : Nat} (hx : x < 18446744073709551616) : ∀ b ∈ Sha.bytes8 x, b < 256 := by
  intro b hb
  unfold Sha.bytes8 at hb
  rcases List.mem_append.1 hb with hb | hb
  · exact Sha.bytes4_lt (Nat.mod_lt _ (by decide)) b hb
  · exact Sha.bytes4_lt (Nat.mod_lt _ (by decide)) b hb
theorem padT_lt {n : Nat} (hn : n ≤ 100000000000) : ∀ b ∈ Sha.padT n, b < 256 := by
  intro b hb
  unfold Sha.padT at hb
  rcases List.mem_cons.1 hb with hb | hb
  · omega
  · rcases List.mem_append.1 hb with hb | hb
    · have := (List.mem_replicate.1 hb).2; omega
    · exact bytes8_lt (by omega) b hb
theorem grown_row {w w' : World} {base n g : Nat} {v : Value} {e t : TypeId} {xs cs : List Value} (hown : w.ownsRow base e 1 v n xs) (hg : w.grownBy w' v.ownBlock) (hlt : g < base) (h : RowV w g t cs) : RowV w' g t cs :=
  (hg.block g (RowV.lt h) (fun e => by have := ownsRow_block hown g e.symm; omega)).trans h
set_option maxHeartbeats 4000000 in
theorem sum_any (m : List Nat) (v : Value) (w : World) (hv : StrV m v) (hm : m.length ≤ 100000000000) (hK : Ks w) :
    Calls Tryz.prog 127 #[v] w (Ret w (.agg (b8 (Sha.sum m)).toArray)) := by
  obtain ⟨i0, hi, hz0, hz1, hz2⟩ := info_parts infoByte22
  have HI := Lib.hid (And.intro hi (And.intro hz0 (And.intro hz1 hz2)))
  clear hi hz0 hz1 hz2
  obtain ⟨st, blk, rfl, hst, hbk⟩ := hv
  obtain ⟨N, hN⟩ : ∃ N, N = m.length := ⟨_, rfl⟩
  have hN2 : N ≤ 100000000000 := by omega
  have hSV : StrV m (.agg (strLH st blk N).toArray) := ⟨st, blk, by rw [hN], hst, hbk⟩
  obtain ⟨R, hR⟩ : ∃ R, R = Sha.sum m := ⟨_, rfl⟩
  rw [← hN, ← hR]
  obtain ⟨X, hX⟩ : ∃ X, X = (strLH st blk N).toArray := ⟨_, rfl⟩
  rw [← hX] at hSV ⊢
  obtain ⟨p, hp⟩ : ∃ p, p = (119 - N % 64) % 64 := ⟨_, rfl⟩
  have hp2 : p ≤ 63 := by omega
  have hp3 : ∀ i, i ≤ p → ((N + 1 + i) % 64 = 56 ↔ i = p) := by intro i hi; omega
  have hblk := hst.len
  have HK := Lib.hid hK; have HSV := Lib.hid hSV; have HR := Lib.hid hR; have HX := Lib.hid hX; have HP := Lib.hid hp; have HP3 := Lib.hid hp3; have HN := Lib.hid hN; have HBL := Lib.hid hblk
  clear hK hSV hR hX hp hp3 hst hbk hN hblk hm
  go_enter Tryz.func127, Tryz.ntmps127
  go_upto_region 1 with fail
  generalize hw0 : World.alloc _ _ = w0
  have hB : RowV w0 w.heap.size 187 (strLH st blk N) := by rw [← hw0, ← show X.toList = strLH st blk N by rw [HX.out]]; exact (heap_alloc2_old w _ _).trans (by simp)
  have hZ : RowV w0 (w.heap.size + 1) 191 (b8 (preN 32 R 0)) := by rw [← hw0]; exact (heap_alloc2_new w _ _).trans rfl
  have hbw : Below w.heap.size w w0 := by rw [← hw0]; exact belB
  clear hw0
  have hz0 : w.heap.size + 1 < w0.heap.size := RowV.lt hZ
  have c72 : w0.cell? ⟨w.heap.size, 72, none⟩ = some (.int .u64 (N : Int)) := RowV.cell hB (strL_n HBL.out)
  have HB := Lib.hid hB; have HZ := Lib.hid hZ
  clear hB hZ
  go_wp2
  clear c72
  go_loopw [4] (fun pv wr => ∃ (i : Nat) (A : Option Addr) (c : Nat), i ≤ p ∧ pv = .slice A (1 + i) c ∧ wr.ownsRow (w.heap.size + 2) 5 1 (.slice A (1 + i) c) (1 + i) (b8 (128 :: List.replicate i 0)) ∧ Hid (RowV wr w.heap.size 187 (strLH st blk N)) ∧ Hid (RowV wr (w.heap.size + 1) 191 (b8 (preN 32 R 0))) ∧ Below w.heap.size w wr) (fun pv _ => match pv with | .slice _ n _ => 65 - n | _ => 0)
  case atStart =>
    refine ⟨0, some ⟨w0.heap.size, 0, none⟩, 1, by omega, rfl, own_one _ _ 128 (by omega), Lib.hid (RowV.alloc HB.out _), Lib.hid (RowV.alloc HZ.out _), (hbw.alloc (by omega) _)⟩
  case round =>
    obtain ⟨i, A, c, hi, rfl, hown, HBr, HZr, hbr⟩ := hrel
    clear HB HZ hbw
    have hbs : w.heap.size + 1 < wr.heap.size := RowV.lt HZr.out
    have c72 : wr.cell? ⟨w.heap.size, 72, none⟩ = some (.int .u64 (N : Int)) := RowV.cell HBr.out (strL_n HBL.out)
    have h56 := HP3.out i hi
    by_cases h : i = p
    · have hc : ((N : Int) + (1 + p)) % 64 = 56 := by omega
      have hpad : 128 :: List.replicate i 0 = (128 :: List.replicate p 0) ++ (Sha.bytes8 (8 * N)).take 0 := by rw [h]; simp
      have hn1 : 1 + i = 1 + p + 0 := by omega
      rw [hpad, hn1] at hown
      rw [hn1]
      clear hpad hn1 h56 h hi
      go_wp2_with fail
      obtain ⟨wo, rfl⟩ : ∃ wo : World, wo = wr := ⟨_, rfl⟩
      go_loopw [23, 4] (fun jv pv wr => ∃ (j : Nat) (A : Option Addr) (c : Nat), j ≤ 8 ∧ jv = .int .i64 j ∧ pv = .slice A (1 + p + j) c ∧ wr.ownsRow (w.heap.size + 2) 5 1 (.slice A (1 + p + j) c) (1 + p + j) (b8 ((128 :: List.replicate p 0) ++ (Sha.bytes8 (8 * N)).take j)) ∧ Hid (RowV wr w.heap.size 187 (strLH st blk N)) ∧ Hid (RowV wr (w.heap.size + 1) 191 (b8 (preN 32 R 0))) ∧ Below w.heap.size w wr) (fun jv _ _ => 8 - (intOf jv).toNat)
      case atStart => exact ⟨0, A, c, by omega, rfl, rfl, hown, HBr, HZr, hbr⟩
      case round =>
        clear HBr HZr hbr hown c72 hc
        obtain ⟨j, A, c, hj, rfl, rfl, hown, HBr, HZr, hbr⟩ := hrel
        have hbs : w.heap.size + 1 < wr.heap.size := RowV.lt HZr.out
        by_cases h8 : j < 8
        · have hj8 : j = 0 ∨ j = 1 ∨ j = 2 ∨ j = 3 ∨ j = 4 ∨ j = 5 ∨ j = 6 ∨ j = 7 := by omega
          clear h8 hj
          rcases hj8 with rfl | rfl | rfl | rfl | rfl | rfl | rfl | rfl
          · go_wp2_with (at_builtin; refine wpList_append_own _ rfl _ _ 173 rfl (w.heap.size + 2) 5 i0 (.int .u8 0) 1 1 Tryz.underlying173 HI.out.1 HI.out.2.1 HI.out.2.2.1 HI.out.2.2.2 rfl (by decide) _ _ _ rfl (hown.alloc _) ⟨wr.heap.size, 0, none⟩ 1 1 [_] rfl rfl (cell_one_new _ _ _) (by simp [Value.oneCell']) (by unfold maxLen; omega) (by omega) (by simp; omega) ?_; intro v' w3 hown1 hgrow1 _; obtain ⟨g1, cap1, rfl⟩ := ownsRow_succ hown1; have hb3 : Below w.heap.size w w3 := (hbr.alloc (by omega) _).grown hgrow1 (by simp; omega) (fun r e => by have := ownsRow_block hown r e; omega); have HB3 := Lib.hid (grown_row (hown.alloc _) hgrow1 (by omega) (RowV.alloc HBr.out _)); have HZ3 := Lib.hid (grown_row (hown.alloc _) hgrow1 (by omega) (RowV.alloc HZr.out _)); have hbs3 : w.heap.size + 1 < w3.heap.size := RowV.lt HZ3.out; clear hown)
            have hown2 := own_next (n := 1 + p) hown1 (by omega) (by simp [Sha.bytes8, Sha.bytes4] <;> omega) (by rw [bytes8_len]; omega)
            refine ⟨?_, by simp [intOf]⟩
            repeat apply Exists.intro
            exact ⟨⟨1, some ⟨g1, 0, none⟩, cap1, by omega, rfl, rfl, hown2, HB3, HZ3, hb3⟩, rfl⟩
          · go_wp2_with (at_builtin; refine wpList_append_own _ rfl _ _ 173 rfl (w.heap.size + 2) 5 i0 (.int .u8 0) 1 1 Tryz.underlying173 HI.out.1 HI.out.2.1 HI.out.2.2.1 HI.out.2.2.2 rfl (by decide) _ _ _ rfl (hown.alloc _) ⟨wr.heap.size, 0, none⟩ 1 1 [_] rfl rfl (cell_one_new _ _ _) (by simp [Value.oneCell']) (by unfold maxLen; omega) (by omega) (by simp; omega) ?_; intro v' w3 hown1 hgrow1 _; obtain ⟨g1, cap1, rfl⟩ := ownsRow_succ hown1; have hb3 : Below w.heap.size w w3 := (hbr.alloc (by omega) _).grown hgrow1 (by simp; omega) (fun r e => by have := ownsRow_block hown r e; omega); have HB3 := Lib.hid (grown_row (hown.alloc _) hgrow1 (by omega) (RowV.alloc HBr.out _)); have HZ3 := Lib.hid (grown_row (hown.alloc _) hgrow1 (by omega) (RowV.alloc HZr.out _)); have hbs3 : w.heap.size + 1 < w3.heap.size := RowV.lt HZ3.out; clear hown)
            have hown2 := own_next (n := 1 + p) hown1 (by omega) (by simp [Sha.bytes8, Sha.bytes4] <;> omega) (by rw [bytes8_len]; omega)
            refine ⟨?_, by simp [intOf]⟩
            repeat apply Exists.intro
            exact ⟨⟨2, some ⟨g1, 0, none⟩, cap1, by omega, rfl, rfl, hown2, HB3, HZ3, hb3⟩, rfl⟩
          · go_wp2_with (at_builtin; refine wpList_append_own _ rfl _ _ 173 rfl (w.heap.size + 2) 5 i0 (.int .u8 0) 1 1 Tryz.underlying173 HI.out.1 HI.out.2.1 HI.out.2.2.1 HI.out.2.2.2 rfl (by decide) _ _ _ rfl (hown.alloc _) ⟨wr.heap.size, 0, none⟩ 1 1 [_] rfl rfl (cell_one_new _ _ _) (by simp [Value.oneCell']) (by unfold maxLen; omega) (by omega) (by simp; omega) ?_; intro v' w3 hown1 hgrow1 _; obtain ⟨g1, cap1, rfl⟩ := ownsRow_succ hown1; have hb3 : Below w.heap.size w w3 := (hbr.alloc (by omega) _).grown hgrow1 (by simp; omega) (fun r e => by have := ownsRow_block hown r e; omega); have HB3 := Lib.hid (grown_row (hown.alloc _) hgrow1 (by omega) (RowV.alloc HBr.out _)); have HZ3 := Lib.hid (grown_row (hown.alloc _) hgrow1 (by omega) (RowV.alloc HZr.out _)); have hbs3 : w.heap.size + 1 < w3.heap.size := RowV.lt HZ3.out; clear hown)
            have hown2 := own_next (n := 1 + p) hown1 (by omega) (by simp [Sha.bytes8, Sha.bytes4] <;> omega) (by rw [bytes8_len]; omega)
            refine ⟨?_, by simp [intOf]⟩
            repeat apply Exists.intro
            exact ⟨⟨3, some ⟨g1, 0, none⟩, cap1, by omega, rfl, rfl, hown2, HB3, HZ3, hb3⟩, rfl⟩
          · go_wp2_with (at_builtin; refine wpList_append_own _ rfl _ _ 173 rfl (w.heap.size + 2) 5 i0 (.int .u8 0) 1 1 Tryz.underlying173 HI.out.1 HI.out.2.1 HI.out.2.2.1 HI.out.2.2.2 rfl (by decide) _ _ _ rfl (hown.alloc _) ⟨wr.heap.size, 0, none⟩ 1 1 [_] rfl rfl (cell_one_new _ _ _) (by simp [Value.oneCell']) (by unfold maxLen; omega) (by omega) (by simp; omega) ?_; intro v' w3 hown1 hgrow1 _; obtain ⟨g1, cap1, rfl⟩ := ownsRow_succ hown1; have hb3 : Below w.heap.size w w3 := (hbr.alloc (by omega) _).grown hgrow1 (by simp; omega) (fun r e => by have := ownsRow_block hown r e; omega); have HB3 := Lib.hid (grown_row (hown.alloc _) hgrow1 (by omega) (RowV.alloc HBr.out _)); have HZ3 := Lib.hid (grown_row (hown.alloc _) hgrow1 (by omega) (RowV.alloc HZr.out _)); have hbs3 : w.heap.size + 1 < w3.heap.size := RowV.lt HZ3.out; clear hown)
            have hown2 := own_next (n := 1 + p) hown1 (by omega) (by simp [Sha.bytes8, Sha.bytes4] <;> omega) (by rw [bytes8_len]; omega)
            refine ⟨?_, by simp [intOf]⟩
            repeat apply Exists.intro
            exact ⟨⟨4, some ⟨g1, 0, none⟩, cap1, by omega, rfl, rfl, hown2, HB3, HZ3, hb3⟩, rfl⟩
          · go_wp2_with (at_builtin; refine wpList_append_own _ rfl _ _ 173 rfl (w.heap.size + 2) 5 i0 (.int .u8 0) 1 1 Tryz.underlying173 HI.out.1 HI.out.2.1 HI.out.2.2.1 HI.out.2.2.2 rfl (by decide) _ _ _ rfl (hown.alloc _) ⟨wr.heap.size, 0, none⟩ 1 1 [_] rfl rfl (cell_one_new _ _ _) (by simp [Value.oneCell']) (by unfold maxLen; omega) (by omega) (by simp; omega) ?_; intro v' w3 hown1 hgrow1 _; obtain ⟨g1, cap1, rfl⟩ := ownsRow_succ hown1; have hb3 : Below w.heap.size w w3 := (hbr.alloc (by omega) _).grown hgrow1 (by simp; omega) (fun r e => by have := ownsRow_block hown r e; omega); have HB3 := Lib.hid (grown_row (hown.alloc _) hgrow1 (by omega) (RowV.alloc HBr.out _)); have HZ3 := Lib.hid (grown_row (hown.alloc _) hgrow1 (by omega) (RowV.alloc HZr.out _)); have hbs3 : w.heap.size + 1 < w3.heap.size := RowV.lt HZ3.out; clear hown)
            have hown2 := own_next (n := 1 + p) hown1 (by omega) (by simp [Sha.bytes8, Sha.bytes4] <;> omega) (by rw [bytes8_len]; omega)
            refine ⟨?_, by simp [intOf]⟩
            repeat apply Exists.intro
            exact ⟨⟨5, some ⟨g1, 0, none⟩, cap1, by omega, rfl, rfl, hown2, HB3, HZ3, hb3⟩, rfl⟩
          · go_wp2_with (at_builtin; refine wpList_append_own _ rfl _ _ 173 rfl (w.heap.size + 2) 5 i0 (.int .u8 0) 1 1 Tryz.underlying173 HI.out.1 HI.out.2.1 HI.out.2.2.1 HI.out.2.2.2 rfl (by decide) _ _ _ rfl (hown.alloc _) ⟨wr.heap.size, 0, none⟩ 1 1 [_] rfl rfl (cell_one_new _ _ _) (by simp [Value.oneCell']) (by unfold maxLen; omega) (by omega) (by simp; omega) ?_; intro v' w3 hown1 hgrow1 _; obtain ⟨g1, cap1, rfl⟩ := ownsRow_succ hown1; have hb3 : Below w.heap.size w w3 := (hbr.alloc (by omega) _).grown hgrow1 (by simp; omega) (fun r e => by have := ownsRow_block hown r e; omega); have HB3 := Lib.hid (grown_row (hown.alloc _) hgrow1 (by omega) (RowV.alloc HBr.out _)); have HZ3 := Lib.hid (grown_row (hown.alloc _) hgrow1 (by omega) (RowV.alloc HZr.out _)); have hbs3 : w.heap.size + 1 < w3.heap.size := RowV.lt HZ3.out; clear hown)
            have hown2 := own_next (n := 1 + p) hown1 (by omega) (by simp [Sha.bytes8, Sha.bytes4] <;> omega) (by rw [bytes8_len]; omega)
            refine ⟨?_, by simp [intOf]⟩
            repeat apply Exists.intro
            exact ⟨⟨6, some ⟨g1, 0, none⟩, cap1, by omega, rfl, rfl, hown2, HB3, HZ3, hb3⟩, rfl⟩
          · go_wp2_with (at_builtin; refine wpList_append_own _ rfl _ _ 173 rfl (w.heap.size + 2) 5 i0 (.int .u8 0) 1 1 Tryz.underlying173 HI.out.1 HI.out.2.1 HI.out.2.2.1 HI.out.2.2.2 rfl (by decide) _ _ _ rfl (hown.alloc _) ⟨wr.heap.size, 0, none⟩ 1 1 [_] rfl rfl (cell_one_new _ _ _) (by simp [Value.oneCell']) (by unfold maxLen; omega) (by omega) (by simp; omega) ?_; intro v' w3 hown1 hgrow1 _; obtain ⟨g1, cap1, rfl⟩ := ownsRow_succ hown1; have hb3 : Below w.heap.size w w3 := (hbr.alloc (by omega) _).grown hgrow1 (by simp; omega) (fun r e => by have := ownsRow_block hown r e; omega); have HB3 := Lib.hid (grown_row (hown.alloc _) hgrow1 (by omega) (RowV.alloc HBr.out _)); have HZ3 := Lib.hid (grown_row (hown.alloc _) hgrow1 (by omega) (RowV.alloc HZr.out _)); have hbs3 : w.heap.size + 1 < w3.heap.size := RowV.lt HZ3.out; clear hown)
            have hown2 := own_next (n := 1 + p) hown1 (by omega) (by simp [Sha.bytes8, Sha.bytes4] <;> omega) (by rw [bytes8_len]; omega)
            refine ⟨?_, by simp [intOf]⟩
            repeat apply Exists.intro
            exact ⟨⟨7, some ⟨g1, 0, none⟩, cap1, by omega, rfl, rfl, hown2, HB3, HZ3, hb3⟩, rfl⟩
          · go_wp2_with (at_builtin; refine wpList_append_own _ rfl _ _ 173 rfl (w.heap.size + 2) 5 i0 (.int .u8 0) 1 1 Tryz.underlying173 HI.out.1 HI.out.2.1 HI.out.2.2.1 HI.out.2.2.2 rfl (by decide) _ _ _ rfl (hown.alloc _) ⟨wr.heap.size, 0, none⟩ 1 1 [_] rfl rfl (cell_one_new _ _ _) (by simp [Value.oneCell']) (by unfold maxLen; omega) (by omega) (by simp; omega) ?_; intro v' w3 hown1 hgrow1 _; obtain ⟨g1, cap1, rfl⟩ := ownsRow_succ hown1; have hb3 : Below w.heap.size w w3 := (hbr.alloc (by omega) _).grown hgrow1 (by simp; omega) (fun r e => by have := ownsRow_block hown r e; omega); have HB3 := Lib.hid (grown_row (hown.alloc _) hgrow1 (by omega) (RowV.alloc HBr.out _)); have HZ3 := Lib.hid (grown_row (hown.alloc _) hgrow1 (by omega) (RowV.alloc HZr.out _)); have hbs3 : w.heap.size + 1 < w3.heap.size := RowV.lt HZ3.out; clear hown)
            have hown2 := own_next (n := 1 + p) hown1 (by omega) (by simp [Sha.bytes8, Sha.bytes4] <;> omega) (by rw [bytes8_len]; omega)
            refine ⟨?_, by simp [intOf]⟩
            repeat apply Exists.intro
            exact ⟨⟨8, some ⟨g1, 0, none⟩, cap1, by omega, rfl, rfl, hown2, HB3, HZ3, hb3⟩, rfl⟩
        · have hj8 : j = 8 := by omega
          have hpt : (128 :: List.replicate p 0) ++ (Sha.bytes8 (8 * N)).take j = Sha.padT N := by rw [hj8, HP.out]; rfl
          rw [hpt] at hown
          have hpl : (Sha.padT N).length = 1 + p + j := by rw [Sha.padT_len, HP.out, hj8]; omega
          have hcv := run_text wr A (1 + p + j) c (Sha.padT N) hpl (padT_lt hN2) (by omega) (reads_own hown)
          have hpz : (toN (Sha.padT N)).size ≤ 200 := by rw [toN_size, hpl]; omega
          have hadd := add_any m (.agg X) (toN (Sha.padT N)) wr HSV.out (by have := HN.out; omega) (HK.out.keep hbr)
          rw [nb_toN (padT_lt hN2), show m ++ Sha.padT N = Sha.pad m by rw [Sha.pad_eq, HN.out]] at hadd
          have hBX : wr.heap[w.heap.size]? = some (.cells X 187 (0, 0)) := by rw [HX.out]; exact HBr.out
          have hiX : (Tryz.prog.info? 187).map (·.size) = some X.size := by rw [HX.out, List.size_toArray, strLH_len HBL.out]; kernel_rfl
          have HADD := Lib.hid hadd; have HBX := Lib.hid hBX; have HIX := Lib.hid hiX
          generalize toN (Sha.padT N) = T at *
          clear hadd hBX hiX hpt hpl hown hj8 HSV
          go_upto_region 11 with (first | (refine wpList_load_row rfl _ _ rfl w.heap.size rfl _ X (0, 0) _ HBX.out Tryz.underlying187 rfl HIX.out ?_) | (go_at_call 125; refine HADD.out.mono ?_; rintro e w5 ⟨⟨v5, rfl, hv5⟩, hb5⟩; obtain ⟨st5, blk5, rfl, hst5, hbk5⟩ := hv5; have hi5 : (Tryz.prog.info? 187).map (·.size) = some (strLH st5 blk5 (Sha.pad m).length).toArray.size := (by rw [List.size_toArray, strLH_len hst5.len]; kernel_rfl)) | (refine wpList_store_row rfl _ _ _ rfl w.heap.size (strLH st5 blk5 (Sha.pad m).length).toArray rfl rfl _ _ (RowV.keep HBr.out hb5) hi5 (by rw [List.size_toArray, List.size_toArray, strLH_len hst5.len, strLH_len HBL.out]) (by rw [List.all_toArray, List.all_eq_true]; exact strL_one) ?_))
          try simp only [Act.put, List.setIfInBounds_toArray, List.set_cons_succ, List.set_cons_zero]
          have hs5 := hb5.size
          obtain ⟨w6, hw6⟩ : ∃ y : World, y = w5.setRow w.heap.size (strLH st5 blk5 (Sha.pad m).length).toArray := ⟨_, rfl⟩
          rw [← hw6]
          have hB6 : RowV w6 w.heap.size 187 (strLH st5 blk5 (Sha.pad m).length) := by rw [hw6]; exact RowV.row (RowV.keep HBr.out hb5) _
          have hZ6 : RowV w6 (w.heap.size + 1) 191 (b8 (preN 32 R 0)) := by rw [hw6]; exact RowV.row_far (RowV.keep HZr.out hb5) _ _ (by omega)
          have hbw6 : Below w.heap.size w w6 := by rw [hw6]; exact below_setRow (hbr.trans (hb5.mono (by omega))) (Nat.le_refl _) _
          have hRo : R = Sha.out st5 := by rw [HR.out]; exact hst5.sum.symm
          have hok5 := hst5.ok
          have hRl : R.length = 32 := by rw [hRo]; rfl
          have hout : ∀ i, i < 32 → R.getD i 0 = (Sha.bytes4 ((stL st5).getD (i / 4) 0)).getD (i % 4) 0 := fun i hi => by
            have := out_at st5 (q := i / 4) (r := i % 4) (by omega) (by omega)
            rw [show 4 * (i / 4) + i % 4 = i by omega] at this
            rw [hRo]; exact this
          have hlt := stL_lt hok5
          have HB6 := Lib.hid hB6; have HZ6 := Lib.hid hZ6; have HOUT := Lib.hid hout; have HRL := Lib.hid hRl; have HLT := Lib.hid hlt; have HBL5 := Lib.hid hst5.len
          clear hw6 hB6 hZ6 hRo hok5 hRl hout hlt hst5 hbk5 hi5 hb5 hs5 HBr HZr hbr HBX HIX HADD hcv HK HR HX
          generalize (Sha.pad m).length = L5 at *
          obtain ⟨go, hgo⟩ : ∃ go, go = w6.heap.size := ⟨_, rfl⟩
          have hgo2 : w.heap.size + 1 < go := by rw [hgo]; exact RowV.lt HZ6.out
          go_wp2_with fail
          rw [← hgo]
          have HGO := Lib.hid hgo
          clear hgo
          go_loopw [40] (fun iv wr => ∃ i : Nat, i ≤ 32 ∧ iv = .int .i64 i ∧ Hid (RowV wr go 191 (b8 (preN 32 R i))) ∧ Hid (RowV wr w.heap.size 187 (strLH st5 blk5 L5)) ∧ Hid (RowV wr (w.heap.size + 1) 191 (b8 (preN 32 R 0))) ∧ Below w.heap.size w wr) (fun iv _ => 32 - (intOf iv).toNat)
          case atStart =>
            refine ⟨0, by omega, rfl, Lib.hid ?_, Lib.hid (RowV.alloc HB6.out _), Lib.hid (RowV.alloc HZ6.out _), hbw6.alloc (by have := HGO.out; omega) _⟩
            rw [HGO.out]; exact (heap_alloc_new w6 _).trans rfl
          case round =>
            obtain ⟨i, hi, rfl, HOr, HBr, HZr, hbr⟩ := hrel
            clear HB6 HZ6 hbw6
            have hgl : go < wr.heap.size := RowV.lt HOr.out
            by_cases hi32 : i < 32
            · have cst : wr.cell? ⟨w.heap.size, i / 4, none⟩ = some (.int .u32 ((stL st5).getD (i / 4) 0 : Nat)) := RowV.cell HBr.out (strL_st (w32_at _ (by show i / 4 < 8; omega)))
              have cou : wr.cell? ⟨go, i, none⟩ = some (.int .u8 ((preN 32 R i).getD i 0 : Nat)) := RowV.cell HOr.out (b8_at _ (by rw [preN_len HRL.out hi]; exact hi32))
              have fou : wr.frozen? ⟨go, i, none⟩ = false := RowV.free HOr.out i
              have hq0 : (0 : Int) ≤ (i : Int) / 4 := by omega
              have hq8 : (i : Int) / 4 < 8 := by omega
              have hlt5 := HLT.out (i / 4)
              generalize hy : (stL st5).getD (i / 4) 0 = y at *
              have hr4 : i % 4 = 0 ∨ i % 4 = 1 ∨ i % 4 = 2 ∨ i % 4 = 3 := by omega
              have HY := Lib.hid hy
              clear hy
              rcases hr4 with h4 | h4 | h4 | h4
              · have hr : (i : Int) % 4 = 0 := by omega
                have hval : R.getD i 0 = y / 16777216 := by rw [HOUT.out i hi32, h4, HY.out]; rfl
                go_wp2_with fail
                have hcast : (y : Int) / 16777216 = ((R.getD i 0 : Nat) : Int) := by rw [hval]; simp
                rw [hcast]
                refine ⟨⟨i + 1, by omega, by go_num, Lib.hid ?_, Lib.hid (RowV.far HBr.out _ _ (by simp; omega)), Lib.hid (RowV.far HZr.out _ _ (by simp; omega)), hbr.setCell (p := ⟨go, i, none⟩) (by show w.heap.size ≤ go; omega) _⟩, by simp [intOf]; omega⟩
                have := RowV.set_ HOr.out i (.int .u8 ((R.getD i 0 : Nat) : Int))
                rw [← b8_set, preN_succ HRL.out hi32] at this
                exact this
              · have hr : (i : Int) % 4 = 1 := by omega
                have hval : R.getD i 0 = y / 65536 % 256 := by rw [HOUT.out i hi32, h4, HY.out]; rfl
                go_wp2_with fail
                have hcast : (y : Int) / 65536 % 256 = ((R.getD i 0 : Nat) : Int) := by rw [hval]; simp
                rw [hcast]
                refine ⟨⟨i + 1, by omega, by go_num, Lib.hid ?_, Lib.hid (RowV.far HBr.out _ _ (by simp; omega)), Lib.hid (RowV.far HZr.out _ _ (by simp; omega)), hbr.setCell (p := ⟨go, i, none⟩) (by show w.heap.size ≤ go; omega) _⟩, by simp [intOf]; omega⟩
                have := RowV.set_ HOr.out i (.int .u8 ((R.getD i 0 : Nat) : Int))
                rw [← b8_set, preN_succ HRL.out hi32] at this
                exact this
              · have hr : (i : Int) % 4 = 2 := by omega
                have hval : R.getD i 0 = y / 256 % 256 := by rw [HOUT.out i hi32, h4, HY.out]; rfl
                go_wp2_with fail
                have hcast : (y : Int) / 256 % 256 = ((R.getD i 0 : Nat) : Int) := by rw [hval]; simp
                rw [hcast]
                refine ⟨⟨i + 1, by omega, by go_num, Lib.hid ?_, Lib.hid (RowV.far HBr.out _ _ (by simp; omega)), Lib.hid (RowV.far HZr.out _ _ (by simp; omega)), hbr.setCell (p := ⟨go, i, none⟩) (by show w.heap.size ≤ go; omega) _⟩, by simp [intOf]; omega⟩
                have := RowV.set_ HOr.out i (.int .u8 ((R.getD i 0 : Nat) : Int))
                rw [← b8_set, preN_succ HRL.out hi32] at this
                exact this
              · have hr : (i : Int) % 4 = 3 := by omega
                have hval : R.getD i 0 = y % 256 := by rw [HOUT.out i hi32, h4, HY.out]; rfl
                go_wp2_with fail
                have hcast : (y : Int) % 256 = ((R.getD i 0 : Nat) : Int) := by rw [hval]; simp
                rw [hcast]
                refine ⟨⟨i + 1, by omega, by go_num, Lib.hid ?_, Lib.hid (RowV.far HBr.out _ _ (by simp; omega)), Lib.hid (RowV.far HZr.out _ _ (by simp; omega)), hbr.setCell (p := ⟨go, i, none⟩) (by show w.heap.size ≤ go; omega) _⟩, by simp [intOf]; omega⟩
                have := RowV.set_ HOr.out i (.int .u8 ((R.getD i 0 : Nat) : Int))
                rw [← b8_set, preN_succ HRL.out hi32] at this
                exact this
            · have h32 : i = 32 := by omega
              have hO : wr.heap[go]? = some (.cells (b8 R).toArray 191 (0, 0)) := by have := HOr.out; rw [h32, preN_all HRL.out] at this; exact this
              have hi8 : (Tryz.prog.info? 191).map (·.size) = some (b8 R).toArray.size := by rw [List.size_toArray, b8_len, HRL.out]; kernel_rfl
              have hz8 : (b8 (preN 32 R 0)).toArray.size = (b8 R).toArray.size := by rw [List.size_toArray, List.size_toArray, b8_len, b8_len, HRL.out, preN_len HRL.out (by omega)]
              have h1 : (b8 R).toArray.all (·.oneCell') = true := by rw [List.all_toArray, List.all_eq_true]; exact b8_one R
              have HO := Lib.hid hO; have HI8 := Lib.hid hi8; have HZ8 := Lib.hid hz8; have H18 := Lib.hid h1
              clear hO hi8 hz8 h1 h32 HOr hi
              generalize (b8 R).toArray = Y at *
              go_wp2_with (first | (refine wpList_load_row rfl _ _ rfl go rfl _ Y (0, 0) _ HO.out Tryz.underlying191 rfl HI8.out ?_) | (refine wpList_store_row rfl _ _ _ rfl (w.heap.size + 1) Y rfl rfl _ _ HZr.out HI8.out HZ8.out H18.out ?_))
              refine bodyPost_ret (v := .agg Y) ?_ rfl ⟨rfl, ?_⟩
              · exact results_cell_row rfl _ _ (w.heap.size + 1) _ _ (0, 0) _ rfl (setRow_heap _ _ _ _ _ _ HZr.out) Tryz.underlying191 rfl HI8.out
              · exact below_setRow hbr (by omega) _
    · have hc : ¬ ((N : Int) + (1 + i)) % 64 = 56 := by omega
      go_wp2_with (at_builtin; refine wpList_append_own _ rfl _ _ 173 rfl (w.heap.size + 2) 5 i0 (.int .u8 0) 1 1 Tryz.underlying173 HI.out.1 HI.out.2.1 HI.out.2.2.1 HI.out.2.2.2 rfl (by decide) _ _ _ rfl (hown.alloc _) ⟨wr.heap.size, 0, none⟩ 1 1 [.int .u8 0] rfl rfl (cell_one_new _ _ _) (by simp [Value.oneCell']) (by unfold maxLen; omega) (by omega) (by simp; omega) ?_; intro v' w3 hown1 hgrow1 _; obtain ⟨g1, cap1, rfl⟩ := ownsRow_succ hown1; have hb3 : Below w.heap.size w w3 := (hbr.alloc (by omega) _).grown hgrow1 (by simp; omega) (fun r e => by have := ownsRow_block hown r e; omega); have HB3 := Lib.hid (grown_row (hown.alloc _) hgrow1 (by omega) (RowV.alloc HBr.out _)); have HZ3 := Lib.hid (grown_row (hown.alloc _) hgrow1 (by omega) (RowV.alloc HZr.out _)); have hbs3 : w.heap.size + 1 < w3.heap.size := RowV.lt HZ3.out; clear hown)
      refine ⟨⟨i + 1, some ⟨g1, 0, none⟩, cap1, by omega, by rw [Nat.add_assoc], ?_, HB3, HZ3, hb3⟩, ?_⟩
      · rw [← Nat.add_assoc, List.replicate_succ', ← List.cons_append, b8_app]; exact hown1
      · show 65 - (1 + i + 1) < 65 - (1 + i)
        omega
end Go.Proofs.YtjhlpkhfdghngaaGreatDoor
namespace Go.Proofs.YtjhlpkhfdghngaaGreatDoor
open Go.RowKit Go.Sort
set_option linter.unusedVariables false
set_option linter.unusedSimpArgs false
set_option maxRecDepth 100000
theorem begin_strV : StrV [] (.agg (strLH Sha.st0 (List.replicate 64 0) 0).toArray) :=
  ⟨Sha.st0, List.replicate 64 0, rfl, Sha.str0 _ (by simp), fun x hx => by have := (List.mem_replicate.1 hx).2; omega⟩
theorem begin_cells : ((((((((Tryz.zeroCells187.setIfInBounds 0 (.int .u32 1779033703)).setIfInBounds 1 (.int .u32 3144134277)).setIfInBounds 2 (.int .u32 1013904242)).setIfInBounds 3 (.int .u32 2773480762)).setIfInBounds 4 (.int .u32 1359893119)).setIfInBounds 5 (.int .u32 2600822924)).setIfInBounds 6 (.int .u32 528734635)).setIfInBounds 7 (.int .u32 1541459225)) = (strLH Sha.st0 (List.replicate 64 0) 0).toArray := by kernel_rfl
theorem begin_size : (Tryz.prog.info? 187).map (·.size) = some (strLH Sha.st0 (List.replicate 64 0) 0).toArray.size := by kernel_rfl
theorem begin_all : (strLH Sha.st0 (List.replicate 64 0) 0).toArray.all (·.oneCell') = true := by kernel_rfl
theorem zero_size : Tryz.zeroCells187.size = (strLH Sha.st0 (List.replicate 64 0) 0).toArray.size := by kernel_rfl
set_option maxHeartbeats 4000000 in
theorem begin_any (w : World) : Calls Tryz.prog 124 #[] w (fun e w' => (∃ v, e = .returned v ∧ StrV [] v) ∧ Below w.heap.size w w') := by
  have hc := begin_cells
  have hi := begin_size
  have h1 := begin_all
  have hz := zero_size
  have hv := begin_strV
  generalize (strLH Sha.st0 (List.replicate 64 0) 0).toArray = X at *
  have HC := Lib.hid hc; have HI := Lib.hid hi; have H1 := Lib.hid h1; have HZ := Lib.hid hz; have HV := Lib.hid hv
  clear hc hi h1 hz hv
  go_enter Tryz.func124, Tryz.ntmps124
  go_wp2_with (refine wpList_store_row rfl _ _ _ rfl w.heap.size X rfl (congrArg Value.agg HC.out) _ _ (heap_alloc_new w _) HI.out HZ.out H1.out ?_)
  refine bodyPost_ret (v := .agg X) ?_ rfl ⟨⟨_, rfl, HV.out⟩, ?_⟩
  · exact results_cell_row rfl _ _ w.heap.size _ _ (0, 0) _ rfl (setRow_heap _ _ _ _ _ _ (heap_alloc_new w _)) Tryz.underlying187 rfl HI.out
  · exact below_setRow (balloc (Below.refl _ _) _) (Nat.le_refl _) _
end Go.Proofs.YtjhlpkhfdghngaaGreatDoor
namespace Go.Proofs.YtjhlpkhfdghngaaGreatDoor
open Go.RowKit Go.Sort
set_option linter.unusedVariables false
set_option linter.unusedSimpArgs false
set_option maxRecDepth 100000
def StrR (w : World) (g : Nat) (m : List Nat) : Prop := ∃ X, StrV m (.agg X) ∧ w.heap[g]? = some (.cells X 187 (0, 0)) ∧ X.size = 73
theorem StrR.lt {w : World} {g : Nat} {m : List Nat} (h : StrR w g m) : g < w.heap.size := by
  obtain ⟨X, _, h, _⟩ := h
  rcases Nat.lt_or_ge g w.heap.size with hl | hl
  · exact hl
  · rw [Array.getElem?_eq_none hl] at h; cases h
theorem StrR.keep {w w' : World} {g : Nat} {m : List Nat} (h : StrR w g m) (hb : Below w.heap.size w w') : StrR w' g m := by
  have hl := h.lt
  obtain ⟨X, hv, h, hs⟩ := h
  exact ⟨X, hv, (hb.block g hl).trans h, hs⟩
theorem strV_agg {m : List Nat} {v : Value} (h : StrV m v) : ∃ X, v = .agg X ∧ X.size = 73 ∧ X.all (·.oneCell') = true := by
  obtain ⟨st, blk, rfl, hst, _⟩ := h
  exact ⟨_, rfl, by rw [List.size_toArray, strLH_len hst.len], by rw [List.all_toArray, List.all_eq_true]; exact strL_one⟩
theorem inf73 : (Tryz.prog.info? 187).map (·.size) = some 73 := by kernel_rfl
theorem zero73s : Tryz.zeroCells187.size = 73 := by kernel_rfl
def D1 (tag B : Nat) (j : Nat) (v : Value) (w : World) : Prop :=
  match j with
  | 0 => StrV [] v
  | 1 => v = .int .i64 (tag : Int)
  | 2 => v = .int .u8 (tag : Int)
  | 3 => ∃ b, v = .slice (some ⟨b, 0, none⟩) 1 1 ∧ w.cell? ⟨b, 0, none⟩ = some (.int .u8 (tag : Int))
  | 4 => v = .string (toN [tag])
  | 5 => StrV [tag] v
  | 6 => ∃ g, v = .pointer (some ⟨g, 0, none⟩) ∧ B ≤ g ∧ w.heap[g]? = some (.cells Tryz.zeroCells187 187 (0, 0))
  | _ => True
theorem heap_keep {w w' : World} {g : Nat} {o : Obj} (h : w.heap[g]? = some o) (hb : Below w.heap.size w w') : w'.heap[g]? = some o := by
  refine (hb.block g ?_).trans h
  rcases Nat.lt_or_ge g w.heap.size with hl | hl
  · exact hl
  · rw [Array.getElem?_eq_none hl] at h; cases h
theorem D1.keep {tag B : Nat} (j : Nat) (v : Value) (w w' : World) (h : D1 tag B j v w) (hb : Below w.heap.size w w') : D1 tag B j v w' := by
  unfold D1 at h
  split at h
  all_goals first
    | exact h
    | (obtain ⟨b, e, hc⟩ := h; exact ⟨b, e, cell_keep hb hc⟩)
    | (obtain ⟨g, e, hg, hx⟩ := h; exact ⟨g, e, hg, heap_keep hx hb⟩)
    | (unfold D1; split <;> first | trivial | (exfalso; simp_all; done))
def D2 (m : List Nat) (x : ByteArray) (j : Nat) (v : Value) (w : World) : Prop :=
  match j with
  | 0 => StrV m v
  | 1 => v = .string x
  | 2 => ∃ A c, v = .slice A (Sha.wireB (nb x)).length c ∧ Reads w 1 A (Sha.wireB (nb x)).length (b8 (Sha.wireB (nb x)))
  | 3 => v = .string (toN (Sha.wireB (nb x)))
  | 4 => StrV (m ++ Sha.wireB (nb x)) v
  | _ => True
theorem D2.keep {m : List Nat} {x : ByteArray} (j : Nat) (v : Value) (w w' : World) (h : D2 m x j v w) (hb : Below w.heap.size w w') : D2 m x j v w' := by
  unfold D2 at h
  split at h
  all_goals first
    | exact h
    | (obtain ⟨A, c, e, hR⟩ := h; exact ⟨A, c, e, hR.keep hb⟩)
    | (unfold D2; split <;> first | trivial | (exfalso; simp_all; done))
theorem wireB_len (s : ByteArray) : 0 < (Sha.wireB (nb s)).length ∧ (Sha.wireB (nb s)).length ≤ 11 + s.size := by
  unfold Sha.wireB
  rw [List.length_append, nb_len]
  have := Sha.vint_len (2 * s.size)
  refine ⟨?_, by omega⟩
  have : 0 < (Sha.vint (2 * s.size)).length := by
    unfold Sha.vint Sha.vintF
    split <;> simp
  omega
def heard (tag : Nat) (ps : List ByteArray) (k : Nat) : List Nat := Sha.input tag ((ps.take k).map nb)
theorem heard_zero (tag : Nat) (ps : List ByteArray) : heard tag ps 0 = [tag] := rfl
theorem heard_succ (tag : Nat) {ps : List ByteArray} {k : Nat} {x : ByteArray} (hx : ps[k]? = some x) : heard tag ps (k + 1) = heard tag ps k ++ Sha.wireB (nb x) := by
  unfold heard Sha.input
  rw [List.take_add_one, hx]
  simp
theorem heard_len (tag : Nat) (ps : List ByteArray) (hs : ∀ s ∈ ps, s.size ≤ 1000000) : ∀ k, k ≤ ps.length → (heard tag ps k).length ≤ 1 + k * 1000011
  | 0, _ => by rw [heard_zero]; simp
  | k + 1, hk => by
    have hx : ps[k]? = some ps[k] := List.getElem?_eq_getElem (by omega)
    have h1 := heard_len tag ps hs k (by omega)
    have h2 := hs _ (List.getElem_mem (show k < ps.length by omega))
    have h3 := (wireB_len ps[k]).2
    rw [heard_succ tag hx, List.length_append, Nat.add_mul]
    omega
theorem heard_all (tag : Nat) (ps : List ByteArray) : heard tag ps ps.length = Sha.input tag (ps.map nb) := by
  unfold heard
  rw [List.take_of_length_le (Nat.le_refl _)]
end Go.Proofs.YtjhlpkhfdghngaaGreatDoor
namespace Go.Proofs.YtjhlpkhfdghngaaGreatDoor
open Go.RowKit Go.Sort
set_option linter.unusedVariables false
set_option linter.unusedSimpArgs false
set_option maxRecDepth 100000
theorem run_arrayAt16 (w : World) (a : Addr) (n c : Nat) (hn : 16 ≤ n) : (Instr.arrayAt 38 (.slice (some a) n c)).run Tryz.prog w = .ok (.pointer (some a)) w := by
  have h1 := run_underlying Tryz.underlying38 w
  have h2 : ¬ n < 16 := by omega
  simp [Instr.arrayAt, h1, h2]
set_option maxHeartbeats 8000000 in
theorem of_any (tag : Nat) (htag : tag < 256) (A : Option Addr) (n c : Nat) (ps : List ByteArray) (w : World) (hR : Reads w 1 A n (ps.map .string)) (hn : n ≤ 10000) (hsz : ∀ s ∈ ps, s.size ≤ 1000000) (hK : Ks w) :
    Calls Tryz.prog 64 #[.int .i64 (tag : Int), .slice A n c] w (Ret w (.agg (b8 (Sha.ofD tag (ps.map nb))).toArray)) := by
  have hpl : ps.length = n := by have := hR.1; simp at this; omega
  have hhl := heard_len tag ps hsz
  have HR := Lib.hid hR; have HS := Lib.hid hsz; have HK := Lib.hid hK; have HPL := Lib.hid hpl; have HHL := Lib.hid hhl
  obtain ⟨D, hD⟩ : ∃ D, D = b8 (Sha.ofD tag (ps.map nb)) := ⟨_, rfl⟩
  rw [← hD]
  have HD := Lib.hid hD
  clear hR hsz hK hpl hhl hD
  go_enter Tryz.func64, Tryz.ntmps64
  go_upto_region 1 with fail
  generalize hw0 : World.alloc _ _ = w0
  have hZ : RowV w0 w.heap.size 38 (b8 (List.replicate 16 0)) := by rw [← hw0]; exact (heap_alloc_new w _).trans rfl
  have hbw : Below w.heap.size w w0 := by rw [← hw0]; exact belB
  have hz0 : w.heap.size < w0.heap.size := RowV.lt hZ
  have HZ := Lib.hid hZ
  clear hw0 hZ
  have ht0 : (0 : Int) ≤ tag := by omega
  have ht1 : IntKind.u8.wrap (tag : Int) = tag := IntWalk.u8_in _ (by omega)
  go_cut [5] (fun s5 wx => ∃ g : Nat, s5 = .pointer (some ⟨g, 0, none⟩) ∧ w0.heap.size ≤ g ∧ StrR wx g [tag] ∧ Below w0.heap.size w0 wx)
  case first =>
    refine wp_free 7 (by kernel_rfl) (by kernel_rfl) (fun a b => Below a.heap.size a b) (fun a => Below.refl _ _) (fun a b c h k => h.trans (k.mono h.size)) (D1 tag w0.heap.size) D1.keep (fun _ _ => True) trivial ?_ ?_
    · skip
      refine ops_cons ?_ (ops_cons ?_ (ops_cons ?_ (ops_cons ?_ (ops_cons ?_ (ops_cons ?_ (ops_cons ?_ (ops_nil)))))))
      · intro ho L a W hC hi hl hJ hG hA hd
        refine free_call (f := 124) (args := #[]) ho rfl (by simp [go_sem, execOp]) ?_
        refine (begin_any W).mono ?_
        rintro e W' ⟨⟨v, rfl, hv⟩, hb'⟩
        exact ⟨_, rfl, hv, hb', trivial⟩
      · intro ho L a W hC hi hl hJ hG hA hd
        have t0 : a.eval (.tmp 0) = .int .i64 (tag : Int) := agree_eval hA (by kernel_rfl)
        have u0 := (tmp_eq a 0).trans t0
        exact free_step (W' := W) ho rfl (by simp [go_sem, execOp, u0]) ⟨rfl, Below.refl _ _, trivial⟩
      · intro ho L a W hC hi hl hJ hG hA hd
        have t10 : a.eval (.tmp 10) = .int .i64 (tag : Int) := by have := hd _ (Array.mem_of_getElem? (i := 0) rfl) rfl; exact this
        have u10 := (tmp_eq a 10).trans t10
        exact free_step (v := .int .u8 (tag : Int)) (W' := W) ho rfl (by simp [go_sem, execOp, u10, ht1]) ⟨rfl, Below.refl _ _, trivial⟩
      · intro ho L a W hC hi hl hJ hG hA hd
        have t11 : a.eval (.tmp 11) = .int .u8 (tag : Int) := by have := hd _ (Array.mem_of_getElem? (i := 0) rfl) rfl; exact this
        have u11 := (tmp_eq a 11).trans t11
        exact free_step (v := .slice (some ⟨W.heap.size, 0, none⟩) 1 1) (W' := W.alloc (.cells #[.int .u8 (tag : Int)] 5)) ho rfl (by simp [go_sem, execOp, u11]) ⟨⟨_, rfl, Blk.cell (World.alloc_heap_new W (.cells #[.int .u8 (tag : Int)] 5)) 0⟩, balloc (Below.refl _ _) _, trivial⟩
      · intro ho L a W hC hi hl hJ hG hA hd
        obtain ⟨b, t12, hcb⟩ : ∃ b, a.eval (.tmp 12) = .slice (some ⟨b, 0, none⟩) 1 1 ∧ W.cell? ⟨b, 0, none⟩ = some (.int .u8 (tag : Int)) := by have := hd _ (Array.mem_of_getElem? (i := 0) rfl) rfl; exact this
        have u12 := (tmp_eq a 12).trans t12
        have hcv := run_text W (some ⟨b, 0, none⟩) 1 1 [tag] rfl (by intro x hx; rw [List.mem_singleton.1 hx]; exact htag) (by omega) ⟨rfl, fun _ => ⟨b, 0, rfl, fun j u hu => by
          match j, hu with
          | 0, hu => rw [← Option.some.inj hu]; exact hcb⟩⟩
        exact free_step (v := .string (toN [tag])) (W' := W) ho rfl (by simp [go_sem, execOp, u12, hcv]) ⟨rfl, Below.refl _ _, trivial⟩
      · intro ho L a W hC hi hl hJ hG hA hd
        obtain ⟨v9, t9, hv9⟩ : ∃ v9, a.eval (.tmp 9) = v9 ∧ StrV [] v9 := ⟨_, rfl, by have := hd _ (Array.mem_of_getElem? (i := 0) rfl) rfl; exact this⟩
        have t13 : a.eval (.tmp 13) = .string (toN [tag]) := by have := hd _ (Array.mem_of_getElem? (i := 1) rfl) rfl; exact this
        have u9 := (tmp_eq a 9).trans t9
        have u13 := (tmp_eq a 13).trans t13
        refine free_call (f := 125) (args := #[v9, .string (toN [tag])]) ho rfl (by simp [go_sem, execOp, u9, u13]) ?_
        have hlen : ([] : List Nat).length + (toN [tag]).size ≤ 1000000000000 := by rw [toN_size]; simp
        refine (add_any [] v9 (toN [tag]) W hv9 hlen (HK.out.keep ((Below.drew hbw).trans (hG.mono (by show w.heap.size ≤ w0.heap.size; omega))))).mono ?_
        rintro e W' ⟨⟨v, rfl, hv⟩, hb'⟩
        rw [nb_toN (by intro x hx; rw [List.mem_singleton.1 hx]; exact htag)] at hv
        exact ⟨_, rfl, hv, hb', trivial⟩
      · intro ho L a W hC hi hl hJ hG hA hd
        exact free_step (v := .pointer (some ⟨W.heap.size, 0, none⟩)) (W' := W.alloc (.cells Tryz.zeroCells187 187)) ho rfl (by simp [go_sem, execOp]) ⟨⟨_, rfl, by have := hG.size; simpa using this, heap_alloc_new W _⟩, balloc (Below.refl _ _) _, trivial⟩
    · intro vals w' hG _ hD
      obtain ⟨g, e6, hg, hzz⟩ : ∃ g, vals 6 = .pointer (some ⟨g, 0, none⟩) ∧ w0.heap.size ≤ g ∧ w'.heap[g]? = some (.cells Tryz.zeroCells187 187 (0, 0)) := hD 6 (by omega)
      have e5 : StrV [tag] (vals 5) := hD 5 (by omega)
      obtain ⟨X, e5x, hX, hX1⟩ := strV_agg e5
      rw [e5x] at e5
      simp only [List.take_succ_cons, List.take_zero, List.drop_succ_cons, List.drop_zero, putL, e6, e5x]
      generalize vals 0 = v0
      generalize vals 1 = v1
      generalize vals 2 = v2
      generalize vals 3 = v3
      generalize vals 4 = v4
      simp only [Act.put, List.setIfInBounds_toArray, List.set_cons_succ, List.set_cons_zero]
      have hi73 : (Tryz.prog.info? 187).map (·.size) = some X.size := by rw [hX]; exact inf73
      have hzs : Tryz.zeroCells187.size = X.size := by rw [hX]; exact zero73s
      refine wpList_store_row rfl _ _ _ rfl g X rfl rfl _ _ hzz hi73 hzs hX1 ?_
      go_wp2_with fail
      go_meet
      exact ⟨g, rfl, hg, ⟨X, e5, setRow_heap _ _ _ _ _ _ hzz, hX⟩, below_setRow ((Below.drew (Below.refl _ _)).trans hG) hg _⟩
  case rest =>
    obtain ⟨g, rfl, hg, hStr, hbc⟩ := hcut
    have hZ1 : RowV wc w.heap.size 38 (b8 (List.replicate 16 0)) := RowV.keep HZ.out hbc
    have hbw1 : Below w.heap.size w wc := hbw.trans (hbc.mono (by omega))
    have HST := Lib.hid hStr; have HZ1 := Lib.hid hZ1
    clear hStr hZ1 HZ hbw hbc
    have hgw : w.heap.size < g := by omega
    go_wp2_with fail
    go_loopw [17] (fun kv wr => ∃ k : Nat, k ≤ n ∧ kv = .int .i64 k ∧ Hid (StrR wr g (heard tag ps k)) ∧ Hid (RowV wr w.heap.size 38 (b8 (List.replicate 16 0))) ∧ Below w.heap.size w wr) (fun kv _ => n - (intOf kv).toNat)
    case atStart => exact ⟨0, by omega, rfl, Lib.hid (by rw [heard_zero]; exact HST.out), HZ1, hbw1⟩
    case round =>
      obtain ⟨k, hk, rfl, HSr, HZr, hbr⟩ := hrel
      clear HST HZ1 hbw1
      by_cases hlt : k < n
      · obtain ⟨pb, po, u, rfl, hu, hcell⟩ := (HR.out.keep hbr).at_ hlt
        obtain ⟨x, hx, rfl⟩ := strs_at hu
        have hxs := HS.out x (List.mem_of_getElem? hx)
        have hsucc := heard_succ tag hx
        have hml := HHL.out k (by have := HPL.out; omega)
        have hml2 : (heard tag ps k).length ≤ 20000000000 := by omega
        have hwb := wireB_len x
        obtain ⟨X, hSX, hX, hXs⟩ := HSr.out
        have HSU := Lib.hid hsucc; have HSX := Lib.hid hSX; have HXX := Lib.hid hX; have HXS := Lib.hid hXs
        clear hu hx hsucc hml hSX hX hXs HSr
        generalize heard tag ps k = m at *
        go_wp2_with fail
        have hgl : g < wr.heap.size := by
          rcases Nat.lt_or_ge g wr.heap.size with hl | hl
          · exact hl
          · have := HXX.out; rw [Array.getElem?_eq_none hl] at this; cases this
        refine wp_free 5 (by kernel_rfl) (by kernel_rfl) (fun a b => Below a.heap.size a b) (fun a => Below.refl _ _) (fun a b c h k => h.trans (k.mono h.size)) (D2 m x) D2.keep (fun _ _ => True) trivial ?_ ?_
        · skip
          refine ops_cons ?_ (ops_cons ?_ (ops_cons ?_ (ops_cons ?_ (ops_cons ?_ (ops_nil)))))
          · intro ho L a W hC hi hl hJ hG hA hd
            have t5 : a.eval (.tmp 5) = .pointer (some ⟨g, 0, none⟩) := agree_eval hA (by kernel_rfl)
            have u5 := (tmp_eq a 5).trans t5
            have hXW : W.heap[g]? = some (.cells X 187 (0, 0)) := heap_keep (w := wr.drew) HXX.out hG
            have hld := run_loadVar_row (P := Tryz.prog) W g 187 187 X (0, 0) _ hXW Tryz.underlying187 rfl (by rw [HXS.out]; exact inf73)
            exact free_step (v := .agg X) (W' := W) ho rfl (by unfold execOp; simp only [t5, Instr.loadAt, Instr.sureAddr, Sem.run_bind, Sem.run_pure, Result.andThen_ok, hld]) ⟨HSX.out, Below.refl _ _, trivial⟩
          · intro ho L a W hC hi hl hJ hG hA hd
            have t7 : a.eval (.tmp 7) = .string x := agree_eval hA (by kernel_rfl)
            have u7 := (tmp_eq a 7).trans t7
            exact free_step (W' := W) ho rfl (by simp [go_sem, execOp, u7]) ⟨rfl, Below.refl _ _, trivial⟩
          · intro ho L a W hC hi hl hJ hG hA hd
            have t22 : a.eval (.tmp 22) = .string x := by have := hd _ (Array.mem_of_getElem? (i := 0) rfl) rfl; exact this
            have u22 := (tmp_eq a 22).trans t22
            refine free_call (f := 126) (args := #[.string x]) ho rfl (by simp [go_sem, execOp, u22]) ?_
            refine (wireBytes_any x W (by omega)).mono ?_
            rintro e W' ⟨A2, c2, rfl, hown, hb'⟩
            exact ⟨_, rfl, ⟨A2, c2, rfl, reads_own hown⟩, hb', trivial⟩
          · intro ho L a W hC hi hl hJ hG hA hd
            obtain ⟨A2, c2, t23, hR2⟩ : ∃ A2 c2, a.eval (.tmp 23) = .slice A2 (Sha.wireB (nb x)).length c2 ∧ Reads W 1 A2 (Sha.wireB (nb x)).length (b8 (Sha.wireB (nb x))) := by have := hd _ (Array.mem_of_getElem? (i := 0) rfl) rfl; exact this
            have u23 := (tmp_eq a 23).trans t23
            have hcv := run_text W A2 _ c2 (Sha.wireB (nb x)) rfl (wireB_lt x (by omega)) hwb.1 hR2
            exact free_step (v := .string (toN (Sha.wireB (nb x)))) (W' := W) ho rfl (by simp [go_sem, execOp, u23, hcv]) ⟨rfl, Below.refl _ _, trivial⟩
          · intro ho L a W hC hi hl hJ hG hA hd
            obtain ⟨v21, t21, hv21⟩ : ∃ v21, a.eval (.tmp 21) = v21 ∧ StrV m v21 := ⟨_, rfl, by have := hd _ (Array.mem_of_getElem? (i := 0) rfl) rfl; exact this⟩
            have t24 : a.eval (.tmp 24) = .string (toN (Sha.wireB (nb x))) := by have := hd _ (Array.mem_of_getElem? (i := 1) rfl) rfl; exact this
            have u21 := (tmp_eq a 21).trans t21
            have u24 := (tmp_eq a 24).trans t24
            refine free_call (f := 125) (args := #[v21, .string (toN (Sha.wireB (nb x)))]) ho rfl (by simp [go_sem, execOp, u21, u24]) ?_
            refine (add_any m v21 (toN (Sha.wireB (nb x))) W hv21 (by rw [toN_size]; omega) (HK.out.keep ((Below.drew hbr).trans (hG.mono (by show w.heap.size ≤ wr.heap.size; omega))))).mono ?_
            rintro e W' ⟨⟨v, rfl, hv⟩, hb'⟩
            rw [nb_toN (wireB_lt x (by omega))] at hv
            exact ⟨_, rfl, hv, hb', trivial⟩
        · intro vals w' hG _ hD
          have e4 : StrV (m ++ Sha.wireB (nb x)) (vals 4) := hD 4 (by omega)
          obtain ⟨Y, e4y, hY, hY1⟩ := strV_agg e4
          rw [e4y] at e4
          simp only [List.take_succ_cons, List.take_zero, List.drop_succ_cons, List.drop_zero, putL, e4y]
          generalize vals 0 = v0
          generalize vals 1 = v1
          generalize vals 2 = v2
          generalize vals 3 = v3
          simp only [Act.put, List.setIfInBounds_toArray, List.set_cons_succ, List.set_cons_zero]
          have hXW : w'.heap[g]? = some (.cells X 187 (0, 0)) := heap_keep (w := wr.drew) HXX.out hG
          have hi73 : (Tryz.prog.info? 187).map (·.size) = some Y.size := by rw [hY]; exact inf73
          refine wpList_store_row rfl _ _ _ rfl g Y rfl rfl _ _ hXW hi73 (by rw [HXS.out, hY]) hY1 ?_
          have hbw' : Below w.heap.size w w' := (Below.drew hbr).trans (hG.mono (by show w.heap.size ≤ wr.heap.size; omega))
          go_wp2_with fail
          refine ⟨⟨k + 1, by omega, by go_num, Lib.hid ?_, Lib.hid ?_, below_setRow hbw' (by omega) _⟩, by simp [intOf]; omega⟩
          · rw [HSU.out]; exact ⟨Y, e4, setRow_heap _ _ _ _ _ _ hXW, hY⟩
          · exact RowV.row_far (RowV.keep (w := wr.drew) HZr.out hG) _ _ (by omega)
      · have hkn : k = n := by omega
        obtain ⟨X, hSX, hX, hXs⟩ := HSr.out
        rw [hkn, ← HPL.out, heard_all] at hSX
        have hml := HHL.out n (by have := HPL.out; omega)
        rw [← HPL.out, heard_all, HPL.out] at hml
        have hsm := sum_any (Sha.input tag (ps.map nb)) (.agg X) wr hSX (by omega) (HK.out.keep hbr)
        have hDD : D = b8 ((Sha.sum (Sha.input tag (ps.map nb))).take 16) := HD.out
        have hRl : (Sha.sum (Sha.input tag (ps.map nb))).length = 32 := rfl
        generalize Sha.sum (Sha.input tag (ps.map nb)) = R at *
        have HSM := Lib.hid hsm; have HXX := Lib.hid hX; have HXS := Lib.hid hXs; have HDD := Lib.hid hDD; have HRL := Lib.hid hRl
        clear hkn hSX hX hXs hml hsm hDD hRl HSr HD
        have hi73 : (Tryz.prog.info? 187).map (·.size) = some X.size := by rw [HXS.out]; exact inf73
        have HI := Lib.hid hi73
        clear hi73
        obtain ⟨Y, hY⟩ : ∃ Y, Y = (b8 R).toArray := ⟨_, rfl⟩
        have hYs : Y.size = 32 := by rw [hY, List.size_toArray, b8_len, HRL.out]
        have hY1 : Y.all (·.oneCell') = true := by rw [hY, List.all_toArray, List.all_eq_true]; exact b8_one R
        have hYi : (Tryz.prog.info? 191).map (·.size) = some Y.size := by rw [hYs]; kernel_rfl
        have hDl : D.length = 16 := by rw [HDD.out, b8_len, List.length_take, HRL.out]; rfl
        have hDi : (Tryz.prog.info? 38).map (·.size) = some D.length := by rw [hDl]; kernel_rfl
        have hDi2 : (Tryz.prog.info? 38).map (·.size) = some D.toArray.size := by rw [List.size_toArray]; exact hDi
        have hD1 : D.toArray.all (·.oneCell') = true := by rw [HDD.out, List.all_toArray, List.all_eq_true]; exact b8_one _
        have hDc : ∀ j v, D[j]? = some v → (b8 R)[0 + j]? = some v := fun j v h => by
          rw [HDD.out, b8_take] at h
          rw [Nat.zero_add]
          rw [List.getElem?_take] at h
          split at h
          · exact h
          · cases h
        have hz16 : (b8 (List.replicate 16 0)).toArray.size = D.toArray.size := by rw [List.size_toArray, List.size_toArray, hDl]; rfl
        rw [← hY] at HSM
        have HY := Lib.hid hY; have HYS := Lib.hid hYs; have HY1 := Lib.hid hY1; have HYI := Lib.hid hYi; have HDI := Lib.hid hDi; have HDI2 := Lib.hid hDi2; have HD1 := Lib.hid hD1; have HDC := Lib.hid hDc; have HZ16 := Lib.hid hz16
        clear hY hYs hY1 hYi hDi hDi2 hD1 hDc hz16 hDl
        go_upto_region 8 with (first | (refine wpList_load_row rfl _ _ rfl g rfl _ X (0, 0) _ HXX.out Tryz.underlying187 rfl HI.out ?_) | (go_at_call 127; refine HSM.out.mono ?_; rintro e w5 ⟨rfl, hb5⟩) | (refine wpList_store_row rfl _ _ _ rfl w5.heap.size Y rfl rfl _ (b8 (List.replicate 32 0)).toArray ((heap_alloc_new w5 _).trans rfl) HYI.out (by rw [HYS.out]; rfl) HY1.out ?_))
        try simp only [Act.put, List.setIfInBounds_toArray, List.set_cons_succ, List.set_cons_zero]
        have hs5 := hb5.size
        have hzr5 : RowV w5 w.heap.size 38 (b8 (List.replicate 16 0)) := RowV.keep HZr.out hb5
        have hbw5 : Below w.heap.size w w5 := hbr.trans (hb5.mono hbr.size)
        obtain ⟨g8, hg8⟩ : ∃ g8, g8 = w5.heap.size := ⟨_, rfl⟩
        have hgw8 : w.heap.size < g8 := by rw [hg8]; exact RowV.lt hzr5
        rw [← hg8]
        generalize hw6 : World.setRow _ _ _ = w6
        have hR6 : w6.heap[g8]? = some (.cells (b8 R).toArray 191 (0, 0)) := by
          rw [← hw6, ← HY.out, hg8]
          exact setRow_heap _ _ _ _ _ _ (heap_alloc_new w5 _)
        have hZ6 : RowV w6 w.heap.size 38 (b8 (List.replicate 16 0)) := by rw [← hw6]; exact RowV.row_far (RowV.alloc hzr5 _) _ _ (by omega)
        have hb6 : Below w.heap.size w w6 := by rw [← hw6]; exact below_setRow (hbw5.alloc (by omega) _) (by omega) _
        have r16 : ∀ W, (Instr.arrayAt 38 (.slice (some ⟨g8, 0, none⟩) 16 32)).run Tryz.prog W = .ok (.pointer (some ⟨g8, 0, none⟩)) W := fun W => run_arrayAt16 W _ 16 32 (by decide)
        have HR6 := Lib.hid hR6; have HZ6 := Lib.hid hZ6
        clear hw6 hg8 hR6 hZ6 hzr5 hbw5 hb5 hs5 HZr hbr HXX HSM
        go_wp2_with (first | (refine wpList_load_at rfl _ _ rfl g8 0 rfl _ (b8 R) D (0, 0) _ HR6.out HDC.out Tryz.underlying38 rfl HDI.out ?_) | (refine wpList_store_row rfl _ _ _ rfl w.heap.size D.toArray rfl rfl _ _ HZ6.out HDI2.out HZ16.out HD1.out ?_))
        refine bodyPost_ret (v := .agg D.toArray) ?_ rfl ⟨rfl, ?_⟩
        · exact results_cell_row rfl _ _ w.heap.size _ _ (0, 0) _ rfl (setRow_heap _ _ _ _ _ _ HZ6.out) Tryz.underlying38 rfl HDI2.out
        · exact below_setRow hb6 (Nat.le_refl _) _
end Go.Proofs.YtjhlpkhfdghngaaGreatDoor
