/- What 'Text' returns. -/
import Derived.Test.YtcjeddichookmaaGreatDoorIZ5
import Derived.Test.YtcjeddichookmaaGreatDoorProg
import Derived.WalkKit
import Derived.WalkSpells
import Derived.WalkLawsBesides
import Derived.Below
import Derived.Deep.QuietTactic
import Derived.BigQuiet
import Derived.Lib.QuietBelow
import Derived.Lib.Strings
import Derived.Lib.Hide
import Derived.Deep.RegionWith
import Derived.Deep.RegionHeld3
import Derived.Lib.IndexBytes
namespace Go.Proofs.YtcjeddichookmaaGreatDoor
open Go.RowKit Go.Sort
set_option linter.unusedVariables false
set_option linter.unusedSimpArgs false
set_option maxRecDepth 100000
def pairK (qs : List (ByteArray × ByteArray)) (k : Nat) : Bool :=
  match qs[k]? with
  | none => false
  | some q => isNameB q.1 && isWordB q.2 && (k == 0 || !(Op.bytesLess q.1.toList ((qs[k - 1]?.getD (⟨#[]⟩, ⟨#[]⟩)).1).toList || q.1.toList == ((qs[k - 1]?.getD (⟨#[]⟩, ⟨#[]⟩)).1).toList))
def headOk (c : ByteArray) (xs : List ByteArray) (qs : List (ByteArray × ByteArray)) : Bool :=
  isNameB c && decide (xs.length ≤ 32) && decide (qs.length ≤ 16) && xs.all isWordB
def formedB (c : ByteArray) (xs : List ByteArray) (qs : List (ByteArray × ByteArray)) : Bool :=
  headOk c xs qs && (List.range qs.length).all (pairK qs) && decide ((W06 c xs qs).length ≤ 4096)
def textV (c : ByteArray) (xs : List ByteArray) (qs : List (ByteArray × ByteArray)) : Value :=
  if formedB c xs qs then .tuple #[.string ⟨(W06 c xs qs).toArray⟩, .int .i64 0] else .tuple #[.string ⟨#[]⟩, .int .i64 1]
theorem W06_c (c : ByteArray) (xs : List ByteArray) (qs : List (ByteArray × ByteArray)) : c.size ≤ (W06 c xs qs).length := by
  rw [Lib.size_eq]; simp only [W06, writeL, List.length_append]; omega
theorem pathL_mem : ∀ (l : List (List UInt8)) (x : List UInt8), x ∈ l → x.length ≤ (pathL l).length
  | [], x, h => by cases h
  | a :: l, x, h => by
    simp only [pathL, List.flatMap_cons, List.length_append, List.length_cons]
    rcases List.mem_cons.1 h with rfl | h
    · omega
    · have := pathL_mem l x h; simp only [pathL] at this; omega
theorem queryL_mem : ∀ (sep : UInt8) (l : List (List UInt8 × List UInt8)) (q : List UInt8 × List UInt8), q ∈ l → q.1.length + q.2.length ≤ (queryL sep l).length
  | _, [], q, h => by cases h
  | _, a :: l, q, h => by
    simp only [queryL, List.length_append, List.length_cons]
    rcases List.mem_cons.1 h with rfl | h
    · omega
    · have := queryL_mem 38 l q h; omega
theorem W06_x (c : ByteArray) (xs : List ByteArray) (qs : List (ByteArray × ByteArray)) (x : ByteArray) (hx : x ∈ xs) : x.size ≤ (W06 c xs qs).length := by
  have := pathL_mem (lists xs) x.data.toList (List.mem_map_of_mem hx)
  rw [Lib.size_eq]; simp only [W06, writeL, List.length_append]; omega
theorem W06_q (c : ByteArray) (xs : List ByteArray) (qs : List (ByteArray × ByteArray)) (q : ByteArray × ByteArray) (hq : q ∈ qs) : q.1.size + q.2.size ≤ (W06 c xs qs).length := by
  have := queryL_mem 63 (lists2 qs) (q.1.data.toList, q.2.data.toList) (List.mem_map_of_mem (f := fun q : ByteArray × ByteArray => (q.1.data.toList, q.2.data.toList)) hq)
  dsimp only at this
  rw [Lib.size_eq, Lib.size_eq]; simp only [W06, writeL, List.length_append]; omega
set_option maxHeartbeats 4000000 in
theorem text_any (c : ByteArray) (P Q : Option Addr) (np cp nq cq : Nat) (xs : List ByteArray) (qs : List (ByteArray × ByteArray)) (w : World)
    (hP : Reads w 1 P np (xs.map .string)) (hQ : Reads w 2 Q nq (pairCells qs)) (htot : (W06 c xs qs).length ≤ 1000000000) :
    Calls Tryz.prog 52 #[.agg #[.string c, .slice P np cp, .slice Q nq cq]] w (Ret w (textV c xs qs)) := by
  have hnp : np ≤ xs.length ∧ xs.length ≤ np := by have := hP.1; simp at this; omega
  have hnq : nq ≤ qs.length ∧ qs.length ≤ nq := by have := hQ.1; rw [pairCells_length] at this; omega
  have hc0 : c.size ≤ 1000000000 := by have := W06_c c xs qs; omega
  have hxs : ∀ x ∈ xs, x.size ≤ 1000000000 := fun x hx => by have := W06_x c xs qs x hx; omega
  have hqs : ∀ q ∈ qs, q.1.size ≤ 1000000000 ∧ q.2.size ≤ 1000000000 := fun q hq => by have := W06_q c xs qs q hq; omega
  have hnp9 : np ≤ 1000000000 := by
    have := pathL_len (lists xs)
    simp only [W06, writeL, List.length_append] at htot
    simp only [lists, List.length_map] at this htot
    omega
  have c1 := fun W => isName_any c W (by omega)
  have c2 : ∀ W, Reads W 1 P np (xs.map .string) → Calls Tryz.prog 70 #[.slice P np cp, .func (.func 71) #[] #[]] W (Ret W (.bool (xs.any fun x => !isWordB x))) := fun W h =>
    containsFunc_any 71 (enters_of Tryz.func71 (by kernel_rfl) rfl) (fun x => !isWordB x) P np cp xs W (fun x hx W' => notWord_any x W' (by have := hxs x hx; omega)) h hnp9
  have HP := Lib.hid hP; have HQ := Lib.hid hQ; have HT := Lib.hid htot; have HXS := Lib.hid hxs; have HQS := Lib.hid hqs; have H1 := Lib.hid c1; have H2 := Lib.hid c2
  clear hP hQ htot hxs hqs c1 c2
  cases h1 : isNameB c
  · have hv : textV c xs qs = .tuple #[.string ⟨#[]⟩, .int .i64 1] := by simp [textV, formedB, headOk, h1]
    rw [hv]
    rw [h1] at H1
    clear hv h1
    go_enter Tryz.func52, Tryz.ntmps52
    go_wp2_with (go_at_call 48; refine (H1.out _).mono ?_; rintro e w1 ⟨rfl, hb1⟩; obtain ⟨hc1, hf1⟩ := bcell hb1; have hz1_0 : w.heap.size < w1.heap.size := (by have := hb1.size; (try simp at this); omega))
    go_ret2
    exact ⟨rfl, belB⟩
  by_cases h2 : np ≤ 32
  rotate_left
  · have hv : textV c xs qs = .tuple #[.string ⟨#[]⟩, .int .i64 1] := by simp [textV, formedB, headOk, show ¬ xs.length ≤ 32 by omega]
    rw [hv]
    rw [h1] at H1
    clear hv h1
    go_enter Tryz.func52, Tryz.ntmps52
    go_wp2_with (go_at_call 48; refine (H1.out _).mono ?_; rintro e w1 ⟨rfl, hb1⟩; obtain ⟨hc1, hf1⟩ := bcell hb1; have hz1_0 : w.heap.size < w1.heap.size := (by have := hb1.size; (try simp at this); omega))
    go_ret2
    exact ⟨rfl, belB⟩
  by_cases h3 : nq ≤ 16
  rotate_left
  · have hv : textV c xs qs = .tuple #[.string ⟨#[]⟩, .int .i64 1] := by simp [textV, formedB, headOk, show ¬ qs.length ≤ 16 by omega]
    rw [hv]
    rw [h1] at H1
    clear hv h1
    go_enter Tryz.func52, Tryz.ntmps52
    go_wp2_with (go_at_call 48; refine (H1.out _).mono ?_; rintro e w1 ⟨rfl, hb1⟩; obtain ⟨hc1, hf1⟩ := bcell hb1; have hz1_0 : w.heap.size < w1.heap.size := (by have := hb1.size; (try simp at this); omega))
    go_ret2
    exact ⟨rfl, belB⟩
  cases h4 : xs.all isWordB
  · have hv : textV c xs qs = .tuple #[.string ⟨#[]⟩, .int .i64 1] := by simp [textV, formedB, headOk, h4]
    rw [hv]
    have h5 : (xs.any fun x => !isWordB x) = true := by rw [← List.not_all_eq_any_not, h4]; rfl
    rw [h1] at H1
    rw [h5] at H2
    clear hv h1 h4 h5
    go_enter Tryz.func52, Tryz.ntmps52
    go_wp2_with (first | (go_at_call 48; refine (H1.out _).mono ?_; rintro e w1 ⟨rfl, hb1⟩; obtain ⟨hc1, hf1⟩ := bcell hb1; have hz1_0 : w.heap.size < w1.heap.size := (by have := hb1.size; (try simp at this); omega)) | (go_at_call 70; refine (H2.out _ (HP.out.keep (blater _ hb1))).mono ?_; rintro e w2 ⟨rfl, hb2⟩; obtain ⟨hc2, hf2⟩ := bcell hb2; have hz2_0 : w.heap.size < w2.heap.size := (by have := hb2.size; (try simp at this); omega)))
    go_ret2
    exact ⟨rfl, belB⟩
  have h5 : (xs.any fun x => !isWordB x) = false := by rw [← List.not_all_eq_any_not, h4]; rfl
  have hv : textV c xs qs = if (List.range nq).all (pairK qs) && decide ((W06 c xs qs).length ≤ 4096) then .tuple #[.string ⟨(W06 c xs qs).toArray⟩, .int .i64 0] else .tuple #[.string ⟨#[]⟩, .int .i64 1] := by
    obtain rfl : nq = qs.length := by omega
    simp [textV, formedB, headOk, h1, h4, show xs.length ≤ 32 by omega, show qs.length ≤ 16 by omega]
  rw [h1] at H1
  rw [h5] at H2
  have HV := Lib.hid hv
  obtain ⟨V, hV⟩ : ∃ V, V = textV c xs qs := ⟨_, rfl⟩
  rw [← hV] at HV ⊢
  clear hv h1 h4 h5 hV
  have d1 : decide ((32 : Int) < (np : Int)) = false := by simp; omega
  have d2 : decide ((16 : Int) < (nq : Int)) = false := by simp; omega
  go_enter Tryz.func52, Tryz.ntmps52
  go_wp2_with (first | (go_at_call 48; refine (H1.out _).mono ?_; rintro e w1 ⟨rfl, hb1⟩; obtain ⟨hc1, hf1⟩ := bcell hb1; have hz1_0 : w.heap.size < w1.heap.size := (by have := hb1.size; (try simp at this); omega)) | (go_at_call 70; refine (H2.out _ (HP.out.keep (blater _ hb1))).mono ?_; rintro e w2 ⟨rfl, hb2⟩; obtain ⟨hc2, hf2⟩ := bcell hb2; have hz2_0 : w.heap.size < w2.heap.size := (by have := hb2.size; (try simp at this); omega)))
  obtain ⟨W0, hW0⟩ : ∃ W0, W0 = w.alloc (.cells #[.string c, .slice P np cp, .slice Q nq cq] 66) := ⟨_, rfl⟩
  rw [← hW0] at hb1
  have HW0 := Lib.hid hW0
  have hbw2 := bstep hb1 hb2
  clear hc1 hf1 hz1_0 hc2 hf2 hz2_0 hb1 hb2 hW0 H1 H2
  go_loopw [31] (fun i wr => ∃ k : Nat, k ≤ nq ∧ i = .int .i64 k ∧ Hid ((List.range k).all (pairK qs) = true) ∧ Below W0.heap.size W0 wr) (fun i _ => nq - (intOf i).toNat)
  case atStart => exact ⟨0, by omega, rfl, Lib.hid rfl, hbw2⟩
  case round =>
    clear hbw2
    obtain ⟨k, hk, rfl, HA, hb⟩ := hrel
    have hb' := hb
    rw [HW0.out] at hb'
    have hbw : Below w.heap.size w wr := blater _ hb'
    have a0 : wr.cell? ⟨w.heap.size, 0, none⟩ = some (.string c) := by rw [hb'.cell (by simp)]; simp [go_sem]
    have a1 : wr.cell? ⟨w.heap.size, 1, none⟩ = some (.slice P np cp) := by rw [hb'.cell (by simp)]; simp [go_sem]
    have a2 : wr.cell? ⟨w.heap.size, 2, none⟩ = some (.slice Q nq cq) := by rw [hb'.cell (by simp)]; simp [go_sem]
    clear hb'
    by_cases hlt : k < nq
    · have hQr := HQ.out.keep hbw
      obtain ⟨pb, po, rfl, hcell⟩ := hQr.2 (by omega)
      clear hQr
      have hql : k < qs.length := by omega
      obtain ⟨q, hq⟩ : ∃ q, qs[k]? = some q := ⟨_, List.getElem?_eq_getElem hql⟩
      obtain ⟨e1, e2⟩ := pairCells_at qs k q hq
      have hc1 : wr.cell? ⟨pb, po + k * 2, none⟩ = _ := hcell _ _ e1
      have hc2 : wr.cell? ⟨pb, po + k * 2 + 1, none⟩ = _ := hcell _ _ e2
      have hsz := HQS.out q (List.mem_of_getElem? hq)
      have cN := fun W => isName_any q.1 W (by omega)
      have cV := fun W => isWord_any q.2 W (by omega)
      have hpk : pairK qs k = (isNameB q.1 && isWordB q.2 && (k == 0 || !(Op.bytesLess q.1.toList ((qs[k - 1]?.getD (⟨#[]⟩, ⟨#[]⟩)).1).toList || q.1.toList == ((qs[k - 1]?.getD (⟨#[]⟩, ⟨#[]⟩)).1).toList))) := by simp [pairK, hq]
      obtain ⟨q1, q2⟩ := q
      dsimp only at hc1 hc2 hsz cN cV hpk
      have HC := Lib.hid hcell; have HK := Lib.hid hpk
      clear hcell e1 e2 hq hpk hql
      have f1 : (wr.alloc (.cells #[.string q1, .string q2] 116)).cell? ⟨wr.heap.size, 0, none⟩ = some (.string q1) := by simp [go_sem]
      have f2 : (wr.alloc (.cells #[.string q1, .string q2] 116)).cell? ⟨wr.heap.size, 1, none⟩ = some (.string q2) := by simp [go_sem]
      have f3 : (wr.alloc (.cells #[.string q1, .string q2] 116)).cell? ⟨w.heap.size, 2, none⟩ = some (.slice (some ⟨pb, po, none⟩) nq cq) := cell_keep (balloc (Below.refl _ _) _) a2
      have hfalse : pairK qs k = false → V = .tuple #[.string ⟨#[]⟩, .int .i64 1] := by
        intro hf
        have hall : (List.range nq).all (pairK qs) = false := by
          rw [List.all_eq_false]
          exact ⟨k, by simpa using hlt, by rw [hf]; simp⟩
        rw [HV.out, hall]
        simp
      have htrue : pairK qs k = true → (List.range (k + 1)).all (pairK qs) = true := by
        intro ht
        rw [List.range_succ, List.all_append, HA.out]
        simp [ht]
      have HF := Lib.hid hfalse; have HTr := Lib.hid htrue
      clear hfalse htrue
      cases h1 : isNameB q1
      · have hv := HF.out (by rw [HK.out, h1]; simp)
        subst hv
        rw [h1] at cN
        have HN := Lib.hid cN
        clear cN cV h1
        go_wp2_with fail
        have k1 := cell_regrown f1; have k2 := cell_regrown f2; have k3 := cell_regrown f3
        refine wp_region_quiet_below (by kernel_rfl) (by kernel_rfl) ?_; (repeat (any_goals (first | go_big_quiet_step ((first | exact qcalls HN.out _ _)) | quiet_step ((first | exact qcalls HN.out _ _))))); refine wpQuiet_nil ?_; intro _ hwq; obtain ⟨⟨dq, osq⟩, hwq⟩ := hwq; subst hwq; have hb3 := below_regrown (wr.alloc (.cells #[.string q1, .string q2] 116)) dq osq; generalize grow (redrawn (wr.alloc (.cells #[.string q1, .string q2] 116)) dq) osq = w3 at *
        go_wp2
        go_ret2
        exact ⟨rfl, belB⟩
      cases h2 : isWordB q2
      · have hv := HF.out (by rw [HK.out, h2]; simp)
        subst hv
        rw [h1] at cN
        rw [h2] at cV
        have HN := Lib.hid cN; have HW := Lib.hid cV
        clear cN cV h1 h2
        go_wp2_with fail
        have k1 := cell_regrown f1; have k2 := cell_regrown f2; have k3 := cell_regrown f3
        refine wp_region_quiet_below (by kernel_rfl) (by kernel_rfl) ?_; (repeat (any_goals (first | go_big_quiet_step ((first | exact qcalls HN.out _ _ | exact qcalls HW.out _ _)) | quiet_step ((first | exact qcalls HN.out _ _ | exact qcalls HW.out _ _))))); refine wpQuiet_nil ?_; intro _ hwq; obtain ⟨⟨dq, osq⟩, hwq⟩ := hwq; subst hwq; have hb3 := below_regrown (wr.alloc (.cells #[.string q1, .string q2] 116)) dq osq; generalize grow (redrawn (wr.alloc (.cells #[.string q1, .string q2] 116)) dq) osq = w3 at *
        go_wp2
        go_ret2
        exact ⟨rfl, belB⟩
      rw [h1] at cN
      rw [h2] at cV
      have HN := Lib.hid cN; have HW := Lib.hid cV
      clear cN cV
      rcases k with _ | j
      · have hok := HTr.out (by rw [HK.out, h1, h2]; simp)
        have HO := Lib.hid hok
        have hc1' : wr.cell? ⟨pb, po, none⟩ = some (.string q1) := by simpa using hc1
        have hc2' : wr.cell? ⟨pb, po + 1, none⟩ = some (.string q2) := by simpa using hc2
        clear hok h1 h2 hc1 hc2
        go_wp2_with fail
        have k1 := cell_regrown f1; have k2 := cell_regrown f2; have k3 := cell_regrown f3
        refine wp_region_quiet_below (by kernel_rfl) (by kernel_rfl) ?_; (repeat (any_goals (first | go_big_quiet_step ((first | exact qcalls HN.out _ _ | exact qcalls HW.out _ _)) | quiet_step ((first | exact qcalls HN.out _ _ | exact qcalls HW.out _ _))))); refine wpQuiet_nil ?_; intro _ hwq; obtain ⟨⟨dq, osq⟩, hwq⟩ := hwq; subst hwq; have hb3 := below_regrown (wr.alloc (.cells #[.string q1, .string q2] 116)) dq osq; generalize grow (redrawn (wr.alloc (.cells #[.string q1, .string q2] 116)) dq) osq = w3 at *
        go_wp2
        exact ⟨⟨1, by omega, rfl, HO, belB⟩, by simp [intOf]; omega⟩
      · obtain ⟨q0, hq0⟩ : ∃ q, qs[j]? = some q := ⟨_, List.getElem?_eq_getElem (by omega)⟩
        have hg : (qs[j + 1 - 1]?.getD (⟨#[]⟩, ⟨#[]⟩)).1 = q0.1 := by rw [Nat.add_sub_cancel, hq0]; rfl
        have hc4 : wr.cell? ⟨pb, po + j * 2, none⟩ = _ := HC.out _ _ (pairCells_at qs j q0 hq0).1
        have hsz0 := (HQS.out q0 (List.mem_of_getElem? hq0)).1
        obtain ⟨q0, v0⟩ := q0
        dsimp only at hc4 hg hsz0
        have f4 : (wr.alloc (.cells #[.string q1, .string q2] 116)).cell? ⟨pb, po + j * 2, none⟩ = some (.string q0) := cell_keep (balloc (Below.refl _ _) _) hc4
        have hpk := HK.out
        rw [hg, h1, h2] at hpk
        clear HK hc4 hg hq0 h1 h2
        obtain ⟨t, ht⟩ : ∃ t, (Op.bytesLess q1.toList q0.toList || q1.toList == q0.toList) = t := ⟨_, rfl⟩
        rw [ht] at hpk
        cases t
        · have HO := Lib.hid (HTr.out (by rw [hpk]; simp))
          clear hpk HF HTr
          go_wp2_with fail
          have k1 := cell_regrown f1; have k2 := cell_regrown f2; have k3 := cell_regrown f3; have k4 := cell_regrown f4
          refine wp_region_quiet_below (by kernel_rfl) (by kernel_rfl) ?_; (repeat (any_goals (first | go_big_quiet_step ((first | exact qcalls HN.out _ _ | exact qcalls HW.out _ _)) | quiet_step ((first | exact qcalls HN.out _ _ | exact qcalls HW.out _ _))))); refine wpQuiet_nil ?_; intro _ hwq; obtain ⟨⟨dq, osq⟩, hwq⟩ := hwq; subst hwq; have hb3 := below_regrown (wr.alloc (.cells #[.string q1, .string q2] 116)) dq osq; generalize grow (redrawn (wr.alloc (.cells #[.string q1, .string q2] 116)) dq) osq = w3 at *
          go_wp2
          exact ⟨⟨j + 1 + 1, by omega, by go_num, HO, belB⟩, by simp [intOf]; omega⟩
        · have hv := HF.out (by rw [hpk]; simp)
          subst hv
          clear hpk HF HTr
          go_wp2_with fail
          have k1 := cell_regrown f1; have k2 := cell_regrown f2; have k3 := cell_regrown f3; have k4 := cell_regrown f4
          refine wp_region_quiet_below (by kernel_rfl) (by kernel_rfl) ?_; (repeat (any_goals (first | go_big_quiet_step ((first | exact qcalls HN.out _ _ | exact qcalls HW.out _ _)) | quiet_step ((first | exact qcalls HN.out _ _ | exact qcalls HW.out _ _))))); refine wpQuiet_nil ?_; intro _ hwq; obtain ⟨⟨dq, osq⟩, hwq⟩ := hwq; subst hwq; have hb3 := below_regrown (wr.alloc (.cells #[.string q1, .string q2] 116)) dq osq; generalize grow (redrawn (wr.alloc (.cells #[.string q1, .string q2] 116)) dq) osq = w3 at *
          go_wp2
          go_ret2
          exact ⟨rfl, belB⟩
    · obtain rfl : k = nq := by omega
      have hv := HV.out
      rw [HA.out, Bool.true_and] at hv
      have hsz : (⟨(W06 c xs qs).toArray⟩ : ByteArray).size = (W06 c xs qs).length := by simp [Lib.size_eq]
      obtain ⟨s, hs⟩ : ∃ s : ByteArray, s = ⟨(W06 c xs qs).toArray⟩ := ⟨_, rfl⟩
      have cW : ∀ W, Reads W 1 P np (xs.map .string) → Reads W 2 Q k (pairCells qs) → Calls Tryz.prog 60 #[.agg #[.string c, .slice P np cp, .slice Q k cq]] W (Ret W (.string s)) := fun W h1 h2 => hs ▸ write_any c P Q np cp k cq xs qs W h1 h2 HT.out
      have HW := Lib.hid cW
      rw [← hs] at hsz
      clear cW hlt
      by_cases hl : (W06 c xs qs).length ≤ 4096
      · rw [decide_eq_true hl, if_pos rfl, ← hs] at hv
        subst hv
        have hl' : s.size ≤ 4096 := by omega
        clear hl hsz hs HV
        go_wp2_with (go_at_call 60; refine (HW.out _ (HP.out.keep hbw) (HQ.out.keep hbw)).mono ?_; rintro e w3 ⟨rfl, hb3⟩)
        go_ret2
        exact ⟨rfl, belB⟩
      · rw [decide_eq_false hl] at hv
        simp only [Bool.false_eq_true, if_false] at hv
        subst hv
        have hl' : 4096 < s.size := by omega
        clear hl hsz hs HV
        go_wp2_with (go_at_call 60; refine (HW.out _ (HP.out.keep hbw) (HQ.out.keep hbw)).mono ?_; rintro e w3 ⟨rfl, hb3⟩)
        go_ret2
        exact ⟨rfl, belB⟩
end Go.Proofs.YtcjeddichookmaaGreatDoor
