/- What a strings.Builder holds behind WriteString: the bytes that it held, and the new ones. (Turned from the kit's worked contract, to this release's text of copyCheck.) -/
import Derived.Test.YtmlhecjhjjlhfaaGreatDoorSZ1
import Derived.Test.YtmlhecjhjjlhfaaGreatDoorSZ0
import Derived.Lib.AppendStr
import Derived.Test.YtmlhecjhjjlhfaaGreatDoorProg
import Derived.WalkKit
import Derived.WalkSpells
import Derived.WalkLawsBesides
import Derived.Below
import Derived.Deep.QuietTactic
import Derived.BigQuiet
import Derived.Lib.QuietBelow
import Derived.Lib.Strings
import Derived.Lib.Hide
import Derived.Deep.RegionWith
import Derived.Deep.RegionHeld3
import Derived.Lib.IndexBytes
import Derived.Laws.Rows
import Derived.Laws.Tables
import Derived.Laws.CopyOwn
import Derived.Test.YtmlhecjhjjlhfaaGreatDoorSZ2
import Derived.Laws.BitsAllLaws
import Derived.LoopTactic
import Derived.RegionTactic
import Derived.StillTailTactics
import Derived.IntWalk
namespace Go.Proofs.YtmlhecjhjjlhfaaGreatDoor
open Go.RowKit Go.Sort
set_option linter.unusedVariables false
set_option linter.unusedSimpArgs false
set_option maxRecDepth 100000
theorem sizeBuilder : (Tryz.prog.info? 177).map (·.size) = some 2 := by kernel_rfl
theorem liesBuilder : liesAt Tryz.prog Tryz.prog.depth 177 (2 / Tryz.prog.cellsOf 177) 0 177 1 = true := by kernel_rfl
theorem infoByte : (Tryz.prog.info? 5).map (fun i => (i.zero, i.size, i.bytes)) = some (some (.int .u8 0), 1, 1) := by kernel_rfl
set_option maxHeartbeats 1000000 in
theorem copyCheck_used (b : Nat) (w : World) (h0 : w.cell? ⟨b, 0, none⟩ = some (.pointer (some ⟨b, 0, none⟩))) :
    Calls Tryz.prog 184 #[.pointer (some ⟨b, 0, none⟩)] w fun e w' => e = .returned (.tuple #[]) ∧ w' = w := by
  obtain ⟨j, hj, _⟩ := Option.map_eq_some_iff.1 sizeBuilder
  go_enter Tryz.func184, Tryz.ntmps184
  go_wp2
  rw [Lib.run_neq_ptr_same w _ Tryz.underlying174 hj]
  go_wp2
  go_end0
  exact ⟨rfl, rfl⟩
set_option maxHeartbeats 1000000 in
theorem copyCheck_fresh (b : Nat) (w : World) (h0 : w.cell? ⟨b, 0, none⟩ = some (.pointer none)) (hsh : w.shape? b = some (177, 2)) (hfz : w.frozen? ⟨b, 0, none⟩ = false) :
    Calls Tryz.prog 184 #[.pointer (some ⟨b, 0, none⟩)] w fun e w' => e = .returned (.tuple #[]) ∧ w' = w.setCell ⟨b, 0, none⟩ (.pointer (some ⟨b, 0, none⟩)) := by
  obtain ⟨j, hj, hjs⟩ := Option.map_eq_some_iff.1 sizeBuilder
  go_enter Tryz.func184, Tryz.ntmps184
  go_wp2
  rw [Lib.run_to_unsafe w ⟨b, 0, none⟩ Tryz.underlying174 Tryz.underlying222 hj (by rw [hjs]; decide) hsh (Nat.zero_lt_succ 1)]
  simp only [Result.andThen]
  rw [Oper.upon_value]
  go_wp2
  rw [run_callFunc_extern Tryz.func205 (by kernel_rfl) (by kernel_rfl) (by kernel_rfl) (e := Extern.AbiNoEscape.same) (by kernel_rfl)]
  rw [Lib.run_noEscape]
  simp only [Result.andThen]
  rw [Oper.upon_value]
  go_wp2
  rw [Lib.run_from_unsafe w ⟨b, 0, none⟩ Tryz.underlying222 Tryz.underlying174 hj hsh liesBuilder]
  simp only [Result.andThen]
  rw [Oper.upon_value]
  go_wp2
  go_end0
  exact ⟨rfl, rfl⟩
theorem copyCheck_any (B b : Nat) (bs : List Value) (w : World) (h : Lib.IsBuilder 177 5 B b bs w) :
    Calls Tryz.prog 184 #[.pointer (some ⟨b, 0, none⟩)] w fun e w' => e = .returned (.tuple #[]) ∧ (Lib.BuilderAt 177 5 B b (.pointer (some ⟨b, 0, none⟩)) bs w' ∧ Below B w w') := by
  rcases h with h | h
  · refine (copyCheck_fresh b w h.cell0 h.shape h.frozen0).mono ?_
    rintro e w' ⟨rfl, rfl⟩
    exact ⟨rfl, h.used _, (Below.refl B w).setCell (p := ⟨b, 0, none⟩) h.1 _⟩
  · refine (copyCheck_used b w h.cell0).mono ?_
    rintro e w' ⟨rfl, rfl⟩
    exact ⟨rfl, h, Below.refl B _⟩
set_option maxHeartbeats 2000000 in
theorem writeString_any (B b : Nat) (bs : List Value) (s : ByteArray) (w : World) (h : Lib.IsBuilder 177 5 B b bs w) (hlen : bs.length + s.size ≤ 140737488355328) (hBw : B ≤ w.heap.size) :
    Calls Tryz.prog 130 #[.pointer (some ⟨b, 0, none⟩), .string s] w fun e w' => e = .returned (.tuple #[.int .i64 s.size, .nilIface]) ∧ (Lib.BuilderAt 177 5 B b (.pointer (some ⟨b, 0, none⟩)) (bs ++ Lib.strCells s) w' ∧ Below B w w') := by
  obtain ⟨i0, hi, hz0, hz1, hz2⟩ := info_parts infoByte
  go_enter Tryz.func130, Tryz.ntmps130
  go_wp2_with (go_at_call 184; refine (copyCheck_any B b bs _ h).mono ?_)
  rintro e w1 ⟨rfl, h1, hb1⟩
  obtain ⟨hB, v, hbk, hown, hne⟩ := h1
  have c0 : w1.cell? ⟨b, 0, none⟩ = some (.pointer (some ⟨b, 0, none⟩)) := by rw [Lib.cell_of_heap hbk]; rfl
  have c1 : w1.cell? ⟨b, 1, none⟩ = some v := by rw [Lib.cell_of_heap hbk]; rfl
  go_wp2_with (at_builtin; refine Lib.wpList_append_own_string _ rfl _ _ 175 9 rfl B 5 i0 Tryz.underlying175 Tryz.underlying9 hi hz0 hz1 hz2 _ _ _ rfl hown s rfl ?c3 ?c4 ?c5 ?_)
  case c3 => unfold maxLen; omega
  case c4 => omega
  case c5 => have := hb1.size; omega
  intro v' w2 hown' hgrow _
  have hlt : b < w1.heap.size := by
    rcases Nat.lt_or_ge b w1.heap.size with h' | h'
    · exact h'
    · simp [Array.getElem?_eq_none h'] at hbk
  have hb2 : w2.heap[b]? = some (.cells #[.pointer (some ⟨b, 0, none⟩), v] 177 (0, 0)) := by
    rw [hgrow.block b hlt (fun e => hne e.symm)]
    exact hbk
  have d0 : w2.cell? ⟨b, 0, none⟩ = some (.pointer (some ⟨b, 0, none⟩)) := by rw [Lib.cell_of_heap hb2]; rfl
  have d1 : w2.cell? ⟨b, 1, none⟩ = some v := by rw [Lib.cell_of_heap hb2]; rfl
  have f1 : w2.frozen? ⟨b, 1, none⟩ = false := Lib.frozen_of_heap hb2 1
  obtain ⟨ao, n', cap, rfl⟩ : ∃ ao n' cap, v' = .slice ao n' cap := by
    rcases hown'.2 with ⟨hv, _⟩ | ⟨g, cap, cur, hv, _⟩
    · exact ⟨_, _, _, hv⟩
    · exact ⟨_, _, _, hv⟩
  go_wp2
  go_ret2
  refine ⟨rfl, ?_, ?_⟩
  · exact Lib.BuilderAt.put (T := 177) (e := 5) hB hb2 (bs' := bs ++ Lib.strCells s) (by simpa [Lib.strCells_length] using hown') (by decide)
  · exact (hb1.grown hgrow (by have := hb1.size; omega) (fun k hk => (hown.lt k hk).1)).setCell (p := ⟨b, 1, none⟩) hB _
end Go.Proofs.YtmlhecjhjjlhfaaGreatDoor
namespace Go.Proofs.YtmlhecjhjjlhfaaGreatDoor
open Go.RowKit Go.Sort
set_option linter.unusedVariables false
set_option linter.unusedSimpArgs false
set_option maxRecDepth 100000
theorem flat_len {α : Type} {size : Nat} (cells : α → List Value) : ∀ L : List α, (∀ a ∈ L, (cells a).length = size) → (L.flatMap cells).length = L.length * size
  | [], _ => by simp
  | a :: L, h => by
    rw [List.flatMap_cons, List.length_append, h a (by simp), flat_len cells L (fun b hb => h b (by simp [hb])), List.length_cons, Nat.add_mul, Nat.one_mul, Nat.add_comm]
theorem flat_at {α : Type} {size : Nat} (cells : α → List Value) : ∀ (L : List α), (∀ a ∈ L, (cells a).length = size) → ∀ (k j : Nat) (a : α), L[k]? = some a → j < size → (L.flatMap cells)[k * size + j]? = (cells a)[j]?
  | [], _, k, j, a, h, _ => by simp at h
  | b :: L, hl, 0, j, a, h, hj => by
    simp at h
    subst h
    rw [List.flatMap_cons, Nat.zero_mul, Nat.zero_add, List.getElem?_append_left (by rw [hl b (by simp)]; exact hj)]
  | b :: L, hl, k + 1, j, a, h, hj => by
    rw [List.flatMap_cons, List.getElem?_append_right (by rw [hl b (by simp), Nat.add_mul]; omega), hl b (by simp)]
    rw [show (k + 1) * size + j - size = k * size + j by rw [Nat.add_mul]; omega]
    exact flat_at cells L (fun c hc => hl c (by simp [hc])) k j a (by simpa using h) hj
theorem Reads.row {α : Type} {size n : Nat} {w : World} {A : Option Addr} {cells : α → List Value} {L : List α} (h : Reads w size A n (L.flatMap cells)) (hl : ∀ a ∈ L, (cells a).length = size) (hL : L.length = n) {k : Nat} {a : α} (hk : L[k]? = some a) :
    ∃ b o, A = some ⟨b, o, none⟩ ∧ ∀ j u, (cells a)[j]? = some u → w.cell? ⟨b, o + k * size + j, none⟩ = some u := by
  have hkl := (List.getElem?_eq_some_iff.1 hk).1
  obtain ⟨b, o, rfl, hc⟩ := h.2 (by omega)
  refine ⟨b, o, rfl, fun j u hu => ?_⟩
  have hj := (List.getElem?_eq_some_iff.1 hu).1
  rw [hl a (List.mem_of_getElem? hk)] at hj
  rw [Nat.add_assoc]
  exact hc _ u (by rw [flat_at cells L hl k j a hk hj]; exact hu)
theorem Reads.drop {size n : Nat} {w : World} {A : Option Addr} {vs : List Value} (h : Reads w size A n vs) : vs.length = n * size := h.1
end Go.Proofs.YtmlhecjhjjlhfaaGreatDoor
namespace Go.Proofs.YtmlhecjhjjlhfaaGreatDoor
open Go.RowKit Go.Sort
set_option linter.unusedVariables false
set_option linter.unusedSimpArgs false
set_option maxRecDepth 100000
section
variable {P : Program}
theorem wpList_load_addr {ops : Array Oper} {rest : List Oper} {o : Oper} {a : Act} {w : World} {Q : Exit → Act → World → Prop} (hgd : o.guard = none) (ty : TypeId) (x : Operand) (ho : o.op = .load ty x)
    (ad : Addr) (v : Value) (hx : a.eval x = .pointer (some ad)) (hl : (loadVar ty ad).run P w = .ok v w)
    (h : wpList P ops Q rest (a.put o.dst v) w) : wpList P ops Q (o :: rest) a w := by
  refine wpList_plain hgd fun K hK => ?_
  unfold Oper.wp execOp
  simp only [ho, hx, Instr.loadAt, Instr.sureAddr, Sem.run_bind, Sem.run_pure, Result.andThen_ok, hl]
  exact hK _ _ h
theorem wpList_load_wanted {ops : Array Oper} {rest : List Oper} {o : Oper} {a : Act} {w : World} {Q : Exit → Act → World → Prop} (hw : Region.wanted o (yielded ops a.tmps) = true) (ty : TypeId) (x : Operand) (ho : o.op = .load ty x)
    (ad : Addr) (v : Value) (hx : a.eval x = .pointer (some ad)) (hl : (loadVar ty ad).run P w = .ok v w)
    (h : wpList P ops Q rest (a.put o.dst v) w) : wpList P ops Q (o :: rest) a w := by
  refine wpList_step fun K hK => ?_
  simp only [hw, if_true]
  unfold Oper.wp execOp
  simp only [ho, hx, Instr.loadAt, Instr.sureAddr, Sem.run_bind, Sem.run_pure, Result.andThen_ok, hl]
  exact hK _ _ h
end
end Go.Proofs.YtmlhecjhjjlhfaaGreatDoor
namespace Go.Proofs.YtmlhecjhjjlhfaaGreatDoor
open Go.RowKit Go.Sort
set_option linter.unusedVariables false
set_option linter.unusedSimpArgs false
theorem hasSuffix_if (s t : ByteArray) : Lib.hasSuffix s.data.toList t.data.toList = (decide (t.size ≤ s.size) && ((s.extract (s.size - t.size) s.size).toList == t.toList)) := by
  unfold Lib.hasSuffix
  rw [Lib.toList_data, Lib.toList_data, Lib.extract_data, Lib.size_eq, Lib.size_eq, Bool.eq_iff_iff]
  simp only [List.isSuffixOf_iff_suffix, Bool.and_eq_true, decide_eq_true_eq, beq_iff_eq]
  constructor
  · intro h
    have hl := h.length_le
    refine ⟨hl, ?_⟩
    rw [List.take_of_length_le (by simp)]
    obtain ⟨p, hp⟩ := h
    rw [← hp]; simp
  · rintro ⟨_, h⟩
    rw [← h]
    simp [List.take_of_length_le]
    exact List.drop_suffix _ _
set_option maxHeartbeats 1000000 in
theorem hasSuffix_any (s t : ByteArray) (w : World) (hs : s.size ≤ 4294967281) (ht : t.size ≤ 4294967281) :
    Calls Tryz.prog 70 #[.string s, .string t] w (Ret w (.bool (Lib.hasSuffix s.data.toList t.data.toList))) := by
  by_cases h : (t.size : Int) ≤ s.size
  · go_enter Tryz.func70, Tryz.ntmps70
    go_wp2
    go_ret
    exact ⟨ret_bool (by rw [hasSuffix_if]; simp [show t.size ≤ s.size by omega]), belB⟩
  · go_enter Tryz.func70, Tryz.ntmps70
    go_wp2
    go_ret
    exact ⟨ret_bool (by rw [hasSuffix_if]; simp [show ¬ t.size ≤ s.size by omega]), belB⟩
structure Part where
  kind : Nat
  text : ByteArray
def hasP (k : Nat) (t s : ByteArray) : Bool := if k = 0 then t.toList == s.toList else if k = 1 then decide (t.size < s.size) && Lib.hasSuffix s.data.toList t.data.toList else true
def coversP (k : Nat) (t : ByteArray) (k2 : Nat) (t2 : ByteArray) : Bool :=
  if k2 = 0 then hasP k t t2 else if k2 = 1 then k == 2 || (k == 1 && Lib.hasSuffix t2.data.toList t.data.toList) else k == 2
def withP (k : Nat) (t b : ByteArray) : ByteArray := if k = 0 then t else if k = 1 then b ++ t else b
set_option maxHeartbeats 1000000 in
theorem has_any (k : Nat) (t s : ByteArray) (w : World) (hs : s.size ≤ 4294967281) (ht : t.size ≤ 4294967281) (hk : k ≤ 2) :
    Calls Tryz.prog 30 #[.agg #[.int .i64 k, .string t], .string s] w (Ret w (.bool (hasP k t s))) := by
  have hk' : k = 0 ∨ k = 1 ∨ k = 2 := by omega
  rcases hk' with rfl | rfl | rfl
  · go_enter Tryz.func30, Tryz.ntmps30
    go_wp2
    go_ret
    exact ⟨ret_bool (by simp [hasP]), belB⟩
  · by_cases h : (t.size : Int) < s.size
    · go_enter Tryz.func30, Tryz.ntmps30
      go_wp2_with (go_at_call 70; refine (hasSuffix_any s t _ hs ht).mono ?_; rintro e w1 ⟨rfl, hb1⟩)
      go_ret
      exact ⟨ret_bool (by simp [hasP]; omega), belB⟩
    · go_enter Tryz.func30, Tryz.ntmps30
      go_wp2
      go_ret
      exact ⟨ret_bool (by simp [hasP]; omega), belB⟩
  · go_enter Tryz.func30, Tryz.ntmps30
    go_wp2
    go_ret
    exact ⟨ret_bool (by simp [hasP]), belB⟩
set_option maxHeartbeats 2000000 in
theorem covers_any (k k2 : Nat) (t t2 : ByteArray) (w : World) (ht2 : t2.size ≤ 4294967281) (ht : t.size ≤ 4294967281) (hk : k ≤ 2) (hk2 : k2 ≤ 2) :
    Calls Tryz.prog 198 #[.agg #[.int .i64 k, .string t], .agg #[.int .i64 k2, .string t2]] w (Ret w (.bool (coversP k t k2 t2))) := by
  have hk' : k2 = 0 ∨ k2 = 1 ∨ k2 = 2 := by omega
  rcases hk' with rfl | rfl | rfl
  · go_enter Tryz.func198, Tryz.ntmps198
    go_wp2_with (go_at_call 30; refine (has_any k t t2 _ ht2 ht hk).mono ?_; rintro e w1 ⟨rfl, hb1⟩)
    go_ret
    exact ⟨ret_bool (by simp [coversP]), belB⟩
  · have hk'' : k = 0 ∨ k = 1 ∨ k = 2 := by omega
    rcases hk'' with rfl | rfl | rfl
    · go_enter Tryz.func198, Tryz.ntmps198
      go_wp2
      go_ret
      exact ⟨ret_bool (by simp [coversP]), belB⟩
    · go_enter Tryz.func198, Tryz.ntmps198
      go_wp2_with (go_at_call 70; refine (hasSuffix_any t2 t _ ht2 ht).mono ?_; rintro e w1 ⟨rfl, hb1⟩)
      go_ret
      exact ⟨ret_bool (by simp [coversP]), belB⟩
    · go_enter Tryz.func198, Tryz.ntmps198
      go_wp2
      go_ret
      exact ⟨ret_bool (by simp [coversP]), belB⟩
  · have hk'' : k = 0 ∨ k = 1 ∨ k = 2 := by omega
    rcases hk'' with rfl | rfl | rfl
    all_goals
      go_enter Tryz.func198, Tryz.ntmps198
      go_wp2
      go_ret
      exact ⟨ret_bool (by simp [coversP]), belB⟩
set_option maxHeartbeats 1000000 in
theorem with_any (k : Nat) (t b : ByteArray) (w : World) (hs : b.size ≤ 4294967281) (ht : t.size ≤ 4294967281) (hk : k ≤ 2) :
    Calls Tryz.prog 59 #[.agg #[.int .i64 k, .string t], .string b] w (Ret w (.string (withP k t b))) := by
  have hk' : k = 0 ∨ k = 1 ∨ k = 2 := by omega
  rcases hk' with rfl | rfl | rfl
  all_goals
    go_enter Tryz.func59, Tryz.ntmps59
    go_wp2
    go_ret
    exact ⟨ret_str (by simp [withP]), belB⟩
def withoutP (k : Nat) (t : ByteArray) (k2 : Nat) (t2 : ByteArray) : ByteArray := if hasP k2 t2 (withP k t ⟨#[97]⟩) then withP k t ⟨#[98]⟩ else withP k t ⟨#[97]⟩
theorem withP_size (k : Nat) (t b : ByteArray) : (withP k t b).size ≤ t.size + b.size := by
  unfold withP; split <;> (try split) <;> simp <;> omega
def stringP (k : Nat) (t : ByteArray) : ByteArray := if k = 0 then t else ⟨#[42]⟩ ++ t
set_option maxHeartbeats 1000000 in
theorem stringP_any (k : Nat) (t : ByteArray) (w : World) (ht : t.size ≤ 4294967200) (hk : k ≤ 2) :
    Calls Tryz.prog 152 #[.agg #[.int .i64 k, .string t]] w (Ret w (.string (stringP k t))) := by
  have hk' : k = 0 ∨ k = 1 ∨ k = 2 := by omega
  rcases hk' with rfl | rfl | rfl
  all_goals
    go_enter Tryz.func152, Tryz.ntmps152
    go_wp2
    go_ret
    exact ⟨ret_str (by simp [stringP]), belB⟩
def Part.val (p : Part) : Value := .agg #[.int .i64 p.kind, .string p.text]
def partOfP (s : ByteArray) : Part :=
  if s.size < 1 then ⟨0, s⟩ else if !((s.extract 0 1).toList == [42]) then ⟨0, s⟩ else if !((s.extract 1 s.size).toList.isEmpty) then ⟨1, s.extract 1 s.size⟩ else ⟨2, ⟨#[]⟩⟩
set_option maxHeartbeats 2000000 in
theorem partOf_any (s : ByteArray) (w : World) (hs : s.size ≤ 4294967200) :
    Calls Tryz.prog 65 #[.string s] w (Ret w (partOfP s).val) := by
  by_cases h1 : (1 : Int) ≤ s.size
  · have e0 : ¬ s.size < 1 := by omega
    cases h2 : ((s.extract 0 1).toList == [42])
    · have e1 : (partOfP s).val = .agg #[.int .i64 0, .string s] := by simp [partOfP, Part.val, e0, h2]
      rw [e1]
      clear e1
      go_enter Tryz.func65, Tryz.ntmps65
      go_wp2
      exact bodyPost_ret (v := .agg #[.int .i64 0, .string s]) (by simp [results, Tryz.results65, go_sem]) rfl ⟨rfl, belB⟩
    · cases h3 : (s.extract 1 s.size).toList.isEmpty
      · have e1 : (partOfP s).val = .agg #[.int .i64 1, .string (s.extract 1 s.size)] := by simp [partOfP, Part.val, e0, h2, h3]
        rw [e1]
        clear e1
        go_enter Tryz.func65, Tryz.ntmps65
        go_wp2
        exact bodyPost_ret (v := .agg #[.int .i64 1, .string (s.extract 1 s.size)]) (by simp [results, Tryz.results65, go_sem]) rfl ⟨rfl, belB⟩
      · have e1 : (partOfP s).val = .agg #[.int .i64 2, .string ⟨#[]⟩] := by simp [partOfP, Part.val, e0, h2, h3]
        rw [e1]
        clear e1
        go_enter Tryz.func65, Tryz.ntmps65
        go_wp2
        exact bodyPost_ret (v := .agg #[.int .i64 2, .string ⟨#[]⟩]) (by simp [results, Tryz.results65, go_sem]) rfl ⟨rfl, belB⟩
  · have e1 : (partOfP s).val = .agg #[.int .i64 0, .string s] := by simp [partOfP, Part.val, show s.size < 1 by omega]
    rw [e1]
    clear e1
    go_enter Tryz.func65, Tryz.ntmps65
    go_wp2
    exact bodyPost_ret (v := .agg #[.int .i64 0, .string s]) (by simp [results, Tryz.results65, go_sem]) rfl ⟨rfl, belB⟩
def meetP (p q : Part) : Part := if coversP p.kind p.text q.kind q.text then q else p
def meetsP (p q : Part) : Bool := coversP p.kind p.text q.kind q.text || coversP q.kind q.text p.kind p.text
set_option maxHeartbeats 2000000 in
theorem meetP_any (k k2 : Nat) (t t2 : ByteArray) (w : World) (ht2 : t2.size ≤ 4294967281) (ht : t.size ≤ 4294967281) (hk : k ≤ 2) (hk2 : k2 ≤ 2) :
    Calls Tryz.prog 174 #[.agg #[.int .i64 k, .string t], .agg #[.int .i64 k2, .string t2]] w (Ret w (.tuple #[(meetP ⟨k, t⟩ ⟨k2, t2⟩).val, .bool (meetsP ⟨k, t⟩ ⟨k2, t2⟩)])) := by
  have c1 : ∀ W, Calls Tryz.prog 198 #[.agg #[.int .i64 k, .string t], .agg #[.int .i64 k2, .string t2]] W (Ret W (.bool (coversP k t k2 t2))) := fun W => covers_any k k2 t t2 W ht2 ht hk hk2
  have c2 : ∀ W, Calls Tryz.prog 198 #[.agg #[.int .i64 k2, .string t2], .agg #[.int .i64 k, .string t]] W (Ret W (.bool (coversP k2 t2 k t))) := fun W => covers_any k2 k t2 t W ht ht2 hk2 hk
  have H1 := Lib.hid c1; have H2 := Lib.hid c2
  clear c1 c2
  unfold meetP meetsP
  dsimp only
  cases hh : coversP k t k2 t2
  all_goals
    rw [hh] at H1
    simp only [Bool.false_eq_true, if_false, if_true, Bool.false_or, Bool.true_or]
    clear hh
    unfold Part.val
    dsimp only
    go_enter Tryz.func174, Tryz.ntmps174
    go_wp2_with fail
    refine (H1.out _).mono ?_
    rintro e w1 ⟨rfl, hb1⟩
    obtain ⟨hc1, hf1⟩ := bcell hb1; have hz1_0 : w.heap.size < w1.heap.size := (by have := hb1.size; (try simp at this); omega); have hz1_1 : w.heap.size + 1 < w1.heap.size := (by have := hb1.size; (try simp at this); omega); have hz1_2 : w.heap.size + 1 + 1 < w1.heap.size := (by have := hb1.size; (try simp at this); omega)
  · go_wp2_with fail
    have f1 : w1.cell? ⟨w.heap.size, 0, none⟩ = some (.int .i64 k) := by simp [hc1, go_sem]
    have f2 : w1.cell? ⟨w.heap.size, 1, none⟩ = some (.string t) := by simp [hc1, go_sem]
    have f3 : w1.cell? ⟨w.heap.size + 1, 0, none⟩ = some (.int .i64 k2) := by simp [hc1, go_sem]
    have f4 : w1.cell? ⟨w.heap.size + 1, 1, none⟩ = some (.string t2) := by simp [hc1, go_sem]
    have f5 : w1.cell? ⟨w.heap.size + 1 + 1, 0, none⟩ = some (.int .i64 0) := by simp [hc1, go_sem]
    have f6 : w1.cell? ⟨w.heap.size + 1 + 1, 1, none⟩ = some (.string ⟨#[]⟩) := by simp [hc1, go_sem]
    have f7 : w1.frozen? ⟨w.heap.size + 1 + 1, 0, none⟩ = false := by simp [hf1, go_sem]
    have f8 : w1.frozen? ⟨w.heap.size + 1 + 1, 1, none⟩ = false := by simp [hf1, go_sem]
    clear hc1 hf1
    go_region_held3 (fun w' => w'.cell? ⟨w.heap.size, 0, none⟩ = some (.int .i64 k) ∧ w'.cell? ⟨w.heap.size, 1, none⟩ = some (.string t) ∧ w'.cell? ⟨w.heap.size + 1, 0, none⟩ = some (.int .i64 k2) ∧ w'.cell? ⟨w.heap.size + 1, 1, none⟩ = some (.string t2) ∧ w'.cell? ⟨w.heap.size + 1 + 1, 0, none⟩ = some (rd w' ⟨w.heap.size + 1 + 1, 0, none⟩) ∧ w'.cell? ⟨w.heap.size + 1 + 1, 1, none⟩ = some (rd w' ⟨w.heap.size + 1 + 1, 1, none⟩) ∧ w'.frozen? ⟨w.heap.size + 1 + 1, 0, none⟩ = false ∧ w'.frozen? ⟨w.heap.size + 1 + 1, 1, none⟩ = false ∧ Below w.heap.size w w')
      (first | exact ⟨f1, f2, f3, f4, rd_of f5, rd_of f6, f7, f8, Below.drew belB⟩ | (go_split_ands; exact ⟨cell_keep hb2 ‹_›, cell_keep hb2 ‹_›, cell_keep hb2 ‹_›, cell_keep hb2 ‹_›, rd_keep hb2 ‹_›, rd_keep hb2 ‹_›, frozen_keep hb2 (cell_lt ‹_›) ‹_›, frozen_keep hb2 (cell_lt ‹_›) ‹_›, bstep ‹_› hb2⟩) | (go_split_ands; refine ⟨?_, ?_, ?_, ?_, rd_set (rd_set ‹_›), rd_set (rd_set ‹_›), ?_, ?_, ?_⟩ <;> first | (simp [go_sem, *]; done) | (repeat (first | exact .refl _ _ | assumption | refine .drew ?_ | refine balloc ?_ _ | refine bdrewN ?_ _ | refine .setCell ?_ (by simp <;> omega) _ | refine bstep ?_ (by assumption)))))
      ((go_at_call 198; refine (H2.out _).mono ?_; rintro e w2 ⟨rfl, hb2⟩))
    go_wp2
    exact bodyPost_ret (v := .tuple #[.agg #[.int .i64 k, .string t], .bool (coversP k2 t2 k t)]) (by have g5 := cell_keep (w := w1.drew) hb2 f5; have g6 := cell_keep (w := w1.drew) hb2 f6; simp [results, Tryz.results174, go_sem, g5, g6]) rfl ⟨rfl, by go_split_ands; assumption⟩
  · go_wp2_with fail
    exact bodyPost_ret (v := .tuple #[.agg #[.int .i64 k2, .string t2], .bool true]) (by simp [results, Tryz.results174, go_sem, hc1]) rfl ⟨rfl, belB⟩
end Go.Proofs.YtmlhecjhjjlhfaaGreatDoor
namespace Go.Proofs.YtmlhecjhjjlhfaaGreatDoor
open Go.RowKit Go.Sort
set_option linter.unusedVariables false
set_option linter.unusedSimpArgs false
set_option maxRecDepth 100000
def w32 (l : List Nat) : List Value := l.map fun x : Nat => Value.int .u32 (x : Int)
def RowV (w : World) (g : Nat) (t : TypeId) (cs : List Value) : Prop := w.heap[g]? = some (.cells cs.toArray t (0, 0))
section
variable {w w' : World} {g : Nat} {t : TypeId} {cs : List Value}
theorem RowV.lt (h : RowV w g t cs) : g < w.heap.size := by
  rcases Nat.lt_or_ge g w.heap.size with hlt | hge
  · exact hlt
  · unfold RowV at h; rw [Array.getElem?_eq_none hge] at h; cases h
theorem RowV.cell (h : RowV w g t cs) {k : Nat} {v : Value} (hk : cs[k]? = some v) : w.cell? ⟨g, k, none⟩ = some v := by
  rw [cell_of_row w g k _ t _ h]; simpa using hk
theorem RowV.free (h : RowV w g t cs) (k : Nat) : w.frozen? ⟨g, k, none⟩ = false := frozen_of_row w g k _ t h
theorem RowV.keep (h : RowV w g t cs) (hb : Below w.heap.size w w') : RowV w' g t cs := (hb.block g h.lt).trans h
theorem RowV.set_ (h : RowV w g t cs) (k : Nat) (v : Value) : RowV (w.setCell ⟨g, k, none⟩ v) g t (cs.set k v) := by
  have := heap_setCell_same w g k cs.toArray t v h
  unfold RowV
  rw [this]; simp
theorem RowV.row (h : RowV w g t cs) (ds : List Value) : RowV (w.setRow g ds.toArray) g t ds := setRow_heap w g _ _ t _ h
theorem RowV.drew (h : RowV w g t cs) : RowV w.drew g t cs := h
theorem RowV.alloc (h : RowV w g t cs) (o : Obj) : RowV (w.alloc o) g t cs := (heap_alloc_old w o h.lt).trans h
theorem RowV.new (w : World) (t : TypeId) (cs : List Value) : RowV (w.alloc (.cells cs.toArray t)) w.heap.size t cs := heap_alloc_new w _
end
def Row32 (w : World) (g : Nat) (t : TypeId) (L : List Nat) : Prop := RowV w g t (w32 L)
section
variable {w w' : World} {g : Nat} {t : TypeId} {L : List Nat}
theorem w32_at (L : List Nat) {k : Nat} (hk : k < L.length) : (w32 L)[k]? = some (.int .u32 ((L.getD k 0 : Nat) : Int)) := by
  simp [w32, List.getD_eq_getElem?_getD, List.getElem?_eq_getElem hk]
theorem w32_set (L : List Nat) (k v : Nat) : w32 (L.set k v) = (w32 L).set k (.int .u32 (v : Int)) := by simp [w32, List.map_set]
theorem Row32.cell (h : Row32 w g t L) {k : Nat} (hk : k < L.length) : w.cell? ⟨g, k, none⟩ = some (.int .u32 ((L.getD k 0 : Nat) : Int)) := RowV.cell h (w32_at L hk)
theorem Row32.free (h : Row32 w g t L) (k : Nat) : w.frozen? ⟨g, k, none⟩ = false := RowV.free h k
theorem Row32.keep (h : Row32 w g t L) (hb : Below w.heap.size w w') : Row32 w' g t L := RowV.keep h hb
theorem Row32.lt (h : Row32 w g t L) : g < w.heap.size := RowV.lt h
theorem Row32.set_ (h : Row32 w g t L) (k v : Nat) : Row32 (w.setCell ⟨g, k, none⟩ (.int .u32 (v : Int))) g t (L.set k v) := by
  unfold Row32
  rw [w32_set]; exact RowV.set_ h k _
theorem Row32.drew (h : Row32 w g t L) : Row32 w.drew g t L := h
end
end Go.Proofs.YtmlhecjhjjlhfaaGreatDoor
namespace Go.Proofs.YtmlhecjhjjlhfaaGreatDoor
open Go.RowKit Go.Sort
set_option linter.unusedVariables false
set_option linter.unusedSimpArgs false
set_option maxRecDepth 100000
def b8 (l : List Nat) : List Value := l.map fun x : Nat => Value.int .u8 (x : Int)
section
variable {S : List Nat}
end
end Go.Proofs.YtmlhecjhjjlhfaaGreatDoor
