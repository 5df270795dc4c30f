/- What the condition package's join returns. -/
import Derived.Test.YtocgkpdolgnbgaaGreatDoorPC4
import Derived.Test.YtocgkpdolgnbgaaGreatDoorPGB
import Derived.Lib.Join
import Derived.Lib.SlicesCompact
import Derived.Lib.RowBridge
import Derived.Test.YtocgkpdolgnbgaaGreatDoorProg
import Derived.WalkKit
import Derived.WalkSpells
import Derived.WalkLawsBesides
import Derived.Below
import Derived.Deep.QuietTactic
import Derived.BigQuiet
import Derived.Lib.QuietBelow
import Derived.Lib.Strings
import Derived.Lib.Hide
import Derived.Deep.RegionWith
import Derived.Deep.RegionHeld3
import Derived.Lib.IndexBytes
import Derived.Lib.SmallJoins
import Derived.Test.YtocgkpdolgnbgaaGreatDoorPJA
import Derived.Test.YtocgkpdolgnbgaaGreatDoorPPats
import Derived.Lib.ItoaLen
import Derived.Test.YtocgkpdolgnbgaaGreatDoorPCommon
import Derived.Deep.DeepCutAuto
namespace Go.Proofs.YtocgkpdolgnbgaaGreatDoor
open Go.RowKit Go.Sort
set_option linter.unusedVariables false
set_option linter.unusedSimpArgs false
set_option maxRecDepth 100000
def Tab (w : World) : Prop := Lib.TabIs Tryz.prog w "internal/strconv.uint64pow10" .u64 Lib.pow10Tab
theorem tab_global : Tryz.prog.globalNamed "internal/strconv.uint64pow10" = some 3 := by kernel_rfl
theorem Tab.keep {w w' : World} (h : Tab w) (hb : Below w.heap.size w w') : Tab w' := Go.Joins.tab_stays tab_global h hb (Nat.le_refl _)
def orT (a b : ByteArray) : ByteArray := if a.size = 0 then b else a
def commaT (xs : List ByteArray) : ByteArray := ⟨(Lib.join (xs.map (·.data.toList)) [44]).toArray⟩
def joinT (xs : List ByteArray) : ByteArray := orT (commaT xs) ⟨#[126]⟩
def itoaB (n : Int) : ByteArray := ⟨(Lib.itoa n).toArray⟩
theorem itoa_any (n : Int) (w : World) (h0 : -9223372036854775808 ≤ n) (h1 : n ≤ 9223372036854775807) (ht : Tab w) : Calls Tryz.prog 70 #[.int .i64 n] w (Ret w (.string (itoaB n))) :=
  (Tryz.strconv_Itoa n h0 h1 w ht).mono fun e w' ⟨he, k, os, hw⟩ => ⟨he, by rw [hw]; exact below_grown w k os⟩
theorem sclone_any (s : ByteArray) (w : World) (hs : s.size ≤ 281474976710656) : Calls Tryz.prog 68 #[.string s] w (Ret w (.string s)) := by
  have HC := Lib.hid (fun W => Tryz.stringslite_Clone s W hs)
  go_enter Tryz.func68, Tryz.ntmps68
  go_wp2_with (go_at_call 111; refine (HC.out _).mono ?_; rintro e w2 ⟨rfl, hb2⟩)
  go_ret
  exact ⟨rfl, by (repeat (first | exact .refl _ _ | assumption | refine .drew ?_ | refine balloc ?_ _ | refine bdrewN ?_ _ | refine .setCell ?_ (by simp <;> omega) _ | refine bstep ?_ (by assumption)))⟩
theorem comma_any (A : Option Addr) (n c : Nat) (ws : List ByteArray) (W : World) (base : Nat) (hown : W.ownsRow base 9 1 (.slice A n c) n (ws.map .string)) (hlen : (Lib.join (ws.map (·.data.toList)) [44]).length ≤ 140737488355328) (hn : n ≤ 1000000) :
    Calls Tryz.prog 69 #[.slice A n c, .string ⟨#[44]⟩] W (Ret W (.string (commaT ws))) := by
  have hl : ws.length = n := by have := hown.1; simpa using this
  rcases hown.2 with ⟨h, h0⟩ | ⟨g', cap, cur, he, hb, hh, h1, h2, h3, h4⟩
  · injection h with e1 e2 e3
    subst e1
    subst h0
    obtain rfl : ws = [] := List.eq_nil_of_length_eq_zero hl
    refine (Tryz.strings_Join_none none c ⟨#[44]⟩ W).mono fun e w' ⟨h5, h6⟩ => ⟨?_, by rw [h6]; exact Below.refl _ _⟩
    rw [h5]
    rfl
  · injection he with e1 e2 e3
    subst e1; subst e3
    have hcells := World.ownsRow.cells hown (g := g') rfl
    have := Tryz.strings_Join g' 0 c ws ⟨#[44]⟩ W (by
      intro j x hx
      have h9 := hcells j (.string x) (by simp [hx])
      unfold Addr.add at h9
      split at h9 <;> simp_all) ((hown.lt g' rfl).2) (by omega) (by omega) hlen
    rw [hl] at this
    exact this
theorem two_cells0 (W : World) (t : Nat) (a b : Value) (g : Nat) (hg : g = W.heap.size) : (W.alloc (.cells #[a, b] t)).cell? ⟨g, 0, none⟩ = some a ∧ (W.alloc (.cells #[a, b] t)).cell? ⟨g, 1, none⟩ = some b := by
  subst hg
  have h : Blk (W.alloc (.cells #[a, b] t)) W.heap.size t #[a, b] (0, 0) := World.alloc_heap_new _ _
  exact ⟨Blk.cell h 0, Blk.cell h 1⟩
set_option maxHeartbeats 4000000 in
theorem joinS_any (g : Nat) (eg : ∀ args w, (callFunc g args).run Tryz.prog w = .ok (.enter g args) w) (f : ByteArray → ByteArray) (A : Option Addr) (n c : Nat) (xs : List ByteArray) (w : World)
    (hf : ∀ x ∈ xs, ∀ W, Below w.heap.size w W → Calls Tryz.prog g #[.string x] W (Ret W (.string (f x)))) (hA : Reads w 1 A n (xs.map .string)) (hn : n ≤ 1000000) (hlen : (Lib.join ((xs.map f).map (·.data.toList)) [44]).length ≤ 140737488355328) :
    Calls Tryz.prog 71 #[.slice A n c, .func (.func g) #[] #[]] w (Ret w (.string (joinT (xs.map f)))) := by
  have hl : xs.length = n := by have := hA.1; simp at this; omega
  obtain ⟨i0, hi0, hz0, hz1, hz2⟩ := info_parts infoStr
  have HI : Hid ((Tryz.prog.info? 9 = some i0) ∧ i0.zero = some (.string ⟨#[]⟩) ∧ i0.size = 1 ∧ i0.bytes = 16) := Lib.hid ⟨hi0, hz0, hz1, hz2⟩
  have HF := Lib.hid hf; have HA := Lib.hid hA; have HL := Lib.hid hl; have HLEN := Lib.hid hlen
  unfold joinT orT
  obtain ⟨V, hV⟩ : ∃ V, V = (if (commaT (xs.map f)).size = 0 then (⟨#[126]⟩ : ByteArray) else commaT (xs.map f)) := ⟨_, rfl⟩
  rw [← hV]
  have HV := Lib.hid hV
  clear hf hA hl hi0 hz0 hz1 hz2 hlen hV
  go_enter Tryz.func71, Tryz.ntmps71
  go_wp2_with fail
  go_loopw [5, 10] (fun va vi wr => ∃ (k : Nat) (A' : Option Addr) (c' : Nat), (va = .slice A' k c' ∧ vi = .int .i64 k ∧ k ≤ n) ∧ wr.ownsRow w.heap.size 9 1 (.slice A' k c') k (((xs.map f).take k).map .string) ∧ Below w.heap.size w wr) (fun _ vi _ => n - (intOf vi).toNat)
  case atStart => exact ⟨0, none, 0, ⟨rfl, rfl, Nat.zero_le _⟩, World.ownsRow_nil _ _ _ _, Below.refl _ _⟩
  case round =>
    obtain ⟨k, A', c', ⟨rfl, rfl, hk⟩, hown, hbr⟩ := hrel
    by_cases hlt : k < n
    · obtain ⟨x, hx⟩ : ∃ x, xs[k]? = some x := ⟨_, List.getElem?_eq_getElem (by have := HL.out; omega)⟩
      obtain ⟨pb, po, rfl, hcell⟩ := (HA.out.keep hbr).2 (by omega)
      have hc1 : wr.cell? ⟨pb, po + k, none⟩ = some (.string x) := hcell k _ (by simp [hx])
      have hk0 : (0 : Int) ≤ (k : Int) := by omega
      have hk1 : (k : Int) < (n : Int) := by omega
      have htk : (xs.map f).take (k + 1) = (xs.map f).take k ++ [f x] := by rw [List.take_add_one, List.getElem?_map, hx]; rfl
      have HTK := Lib.hid htk
      have HX := Lib.hid hx
      clear hcell hx htk
      go_wp2_with (first | (go_at_fn g; refine (HF.out x (List.mem_of_getElem? HX.out) _ (by (repeat (first | exact .refl _ _ | assumption | refine .drew ?_ | refine balloc ?_ _ | refine bdrewN ?_ _ | refine .setCell ?_ (by simp <;> omega) _ | refine bstep ?_ (by assumption))))).mono ?_; rintro e w2 ⟨rfl, hb2⟩) | (at_builtin; refine wpList_append_own _ rfl _ _ 22 rfl w.heap.size 9 i0 (.string ⟨#[]⟩) 1 16 Tryz.underlying22 HI.out.1 HI.out.2.1 HI.out.2.2.1 HI.out.2.2.2 rfl (by decide) _ _ _ rfl ((ownsRow_keep hown hb2).alloc _) ⟨w2.heap.size, 0, none⟩ 1 1 [.string (f x)] rfl rfl (cell_one_new _ _ _) (by simp [Value.oneCell']) (by unfold maxLen; omega) (by omega) (by have := hb2.size; have := hbr.size; simp at *; omega) ?_; intro v' w3 hown' hgrow _; obtain ⟨g', cap', rfl⟩ := ownsRow_succ hown'))
      refine ⟨⟨k + 1, some ⟨g', 0, none⟩, cap', ⟨rfl, by go_num, by omega⟩, ?_, ?_⟩, by simp [intOf]; omega⟩
      · rw [HTK.out, List.map_append]; exact hown'
      · have h1 := hbr.size
        have h2 := hb2.size
        exact ((hbr.trans (hb2.mono h1)).alloc (by omega) _).grown hgrow (by simp; omega) (fun r e => ownsRow_block hown r e)
    · obtain rfl : k = n := by omega
      have ht : (xs.map f).take k = xs.map f := List.take_of_length_le (by simp; have := HL.out; omega)
      rw [ht] at hown
      have cJ := comma_any A' k c' (xs.map f) wr w.heap.size hown HLEN.out hn
      have HJ := Lib.hid cJ
      have cO := fun (b cc : Nat) (W : World) h0 h1 => cmpOr_any b cc (commaT (xs.map f)) ⟨#[126]⟩ W h0 h1
      have hVO := HV.out
      rw [← hVO] at cO
      generalize commaT (xs.map f) = T at *
      have HO := Lib.hid cO
      clear cJ cO hVO HV ht hown
      go_wp2_with (first | (go_at_call 69; refine HJ.out.mono ?_; rintro e w2 ⟨rfl, hb2⟩) | (go_at_call 34; refine (HO.out _ _ _ (two_cells0 _ _ _ _ _ (by simp)).1 (two_cells0 _ _ _ _ _ (by simp)).2).mono ?_; rintro e w3 ⟨rfl, hb3⟩))
      go_ret
      exact ⟨rfl, by (repeat (first | exact .refl _ _ | assumption | refine .drew ?_ | refine balloc ?_ _ | refine bdrewN ?_ _ | refine .setCell ?_ (by simp <;> omega) _ | refine bstep ?_ (by assumption)))⟩
set_option maxHeartbeats 4000000 in
theorem joinI_any (g : Nat) (eg : ∀ args w, (callFunc g args).run Tryz.prog w = .ok (.enter g args) w) (f : Int → ByteArray) (A : Option Addr) (n c : Nat) (xs : List Int) (w : World)
    (hf : ∀ x ∈ xs, ∀ W, Below w.heap.size w W → Calls Tryz.prog g #[.int .i64 x] W (Ret W (.string (f x)))) (hA : Reads w 1 A n (xs.map (.int .i64))) (hn : n ≤ 1000000) (hlen : (Lib.join ((xs.map f).map (·.data.toList)) [44]).length ≤ 140737488355328) :
    Calls Tryz.prog 72 #[.slice A n c, .func (.func g) #[] #[]] w (Ret w (.string (joinT (xs.map f)))) := by
  have hl : xs.length = n := by have := hA.1; simp at this; omega
  obtain ⟨i0, hi0, hz0, hz1, hz2⟩ := info_parts infoStr
  have HI : Hid ((Tryz.prog.info? 9 = some i0) ∧ i0.zero = some (.string ⟨#[]⟩) ∧ i0.size = 1 ∧ i0.bytes = 16) := Lib.hid ⟨hi0, hz0, hz1, hz2⟩
  have HF := Lib.hid hf; have HA := Lib.hid hA; have HL := Lib.hid hl; have HLEN := Lib.hid hlen
  unfold joinT orT
  obtain ⟨V, hV⟩ : ∃ V, V = (if (commaT (xs.map f)).size = 0 then (⟨#[126]⟩ : ByteArray) else commaT (xs.map f)) := ⟨_, rfl⟩
  rw [← hV]
  have HV := Lib.hid hV
  clear hf hA hl hi0 hz0 hz1 hz2 hlen hV
  go_enter Tryz.func72, Tryz.ntmps72
  go_wp2_with fail
  go_loopw [5, 10] (fun va vi wr => ∃ (k : Nat) (A' : Option Addr) (c' : Nat), (va = .slice A' k c' ∧ vi = .int .i64 k ∧ k ≤ n) ∧ wr.ownsRow w.heap.size 9 1 (.slice A' k c') k (((xs.map f).take k).map .string) ∧ Below w.heap.size w wr) (fun _ vi _ => n - (intOf vi).toNat)
  case atStart => exact ⟨0, none, 0, ⟨rfl, rfl, Nat.zero_le _⟩, World.ownsRow_nil _ _ _ _, Below.refl _ _⟩
  case round =>
    obtain ⟨k, A', c', ⟨rfl, rfl, hk⟩, hown, hbr⟩ := hrel
    by_cases hlt : k < n
    · obtain ⟨x, hx⟩ : ∃ x, xs[k]? = some x := ⟨_, List.getElem?_eq_getElem (by have := HL.out; omega)⟩
      obtain ⟨pb, po, rfl, hcell⟩ := (HA.out.keep hbr).2 (by omega)
      have hc1 : wr.cell? ⟨pb, po + k, none⟩ = some (.int .i64 x) := hcell k _ (by simp [hx])
      have hk0 : (0 : Int) ≤ (k : Int) := by omega
      have hk1 : (k : Int) < (n : Int) := by omega
      have htk : (xs.map f).take (k + 1) = (xs.map f).take k ++ [f x] := by rw [List.take_add_one, List.getElem?_map, hx]; rfl
      have HTK := Lib.hid htk
      have HX := Lib.hid hx
      clear hcell hx htk
      go_wp2_with (first | (go_at_fn g; refine (HF.out x (List.mem_of_getElem? HX.out) _ (by (repeat (first | exact .refl _ _ | assumption | refine .drew ?_ | refine balloc ?_ _ | refine bdrewN ?_ _ | refine .setCell ?_ (by simp <;> omega) _ | refine bstep ?_ (by assumption))))).mono ?_; rintro e w2 ⟨rfl, hb2⟩) | (at_builtin; refine wpList_append_own _ rfl _ _ 22 rfl w.heap.size 9 i0 (.string ⟨#[]⟩) 1 16 Tryz.underlying22 HI.out.1 HI.out.2.1 HI.out.2.2.1 HI.out.2.2.2 rfl (by decide) _ _ _ rfl ((ownsRow_keep hown hb2).alloc _) ⟨w2.heap.size, 0, none⟩ 1 1 [.string (f x)] rfl rfl (cell_one_new _ _ _) (by simp [Value.oneCell']) (by unfold maxLen; omega) (by omega) (by have := hb2.size; have := hbr.size; simp at *; omega) ?_; intro v' w3 hown' hgrow _; obtain ⟨g', cap', rfl⟩ := ownsRow_succ hown'))
      refine ⟨⟨k + 1, some ⟨g', 0, none⟩, cap', ⟨rfl, by go_num, by omega⟩, ?_, ?_⟩, by simp [intOf]; omega⟩
      · rw [HTK.out, List.map_append]; exact hown'
      · have h1 := hbr.size
        have h2 := hb2.size
        exact ((hbr.trans (hb2.mono h1)).alloc (by omega) _).grown hgrow (by simp; omega) (fun r e => ownsRow_block hown r e)
    · obtain rfl : k = n := by omega
      have ht : (xs.map f).take k = xs.map f := List.take_of_length_le (by simp; have := HL.out; omega)
      rw [ht] at hown
      have cJ := comma_any A' k c' (xs.map f) wr w.heap.size hown HLEN.out hn
      have HJ := Lib.hid cJ
      have cO := fun (b cc : Nat) (W : World) h0 h1 => cmpOr_any b cc (commaT (xs.map f)) ⟨#[126]⟩ W h0 h1
      have hVO := HV.out
      rw [← hVO] at cO
      generalize commaT (xs.map f) = T at *
      have HO := Lib.hid cO
      clear cJ cO hVO HV ht hown
      go_wp2_with (first | (go_at_call 69; refine HJ.out.mono ?_; rintro e w2 ⟨rfl, hb2⟩) | (go_at_call 34; refine (HO.out _ _ _ (two_cells0 _ _ _ _ _ (by simp)).1 (two_cells0 _ _ _ _ _ (by simp)).2).mono ?_; rintro e w3 ⟨rfl, hb3⟩))
      go_ret
      exact ⟨rfl, by (repeat (first | exact .refl _ _ | assumption | refine .drew ?_ | refine balloc ?_ _ | refine bdrewN ?_ _ | refine .setCell ?_ (by simp <;> omega) _ | refine bstep ?_ (by assumption)))⟩
end Go.Proofs.YtocgkpdolgnbgaaGreatDoor
namespace Go.Proofs.YtocgkpdolgnbgaaGreatDoor
open Go.RowKit Go.Sort
set_option linter.unusedVariables false
set_option linter.unusedSimpArgs false
set_option maxRecDepth 100000
def fieldsC (c : CondV) : List ByteArray := [itoaB c.fr, itoaB c.till, orT c.pat ⟨#[126]⟩, joinT c.cl, joinT c.co, joinT (c.si.map itoaB), itoaB c.us]
def textC (c : CondV) : ByteArray := ⟨(Lib.join ((fieldsC c).map (·.data.toList)) [32]).toArray⟩
theorem join_le (c : UInt8) (B : Nat) (l : List (List UInt8)) (hl : ∀ x ∈ l, x.length ≤ B) : (Lib.join l [c]).length ≤ l.length * (B + 1) := by
  cases l with
  | nil => simp [Lib.join_nil]
  | cons x r =>
    have hx := hl x (by simp)
    have hr : Lib.lens r ≤ r.length * B := lens_le' B r (fun y hy => hl y (by simp [hy]))
    rw [Lib.join_cons, List.length_append, Lib.joinTail_length]
    simp only [List.length_cons, List.length_nil, Nat.zero_add, Nat.one_mul]
    have e1 : (r.length + 1) * (B + 1) = r.length * B + r.length + B + 1 := by rw [Nat.succ_mul, Nat.mul_succ]; omega
    omega
theorem joinT_len (B : Nat) (xs : List ByteArray) (h : ∀ x ∈ xs, x.size ≤ B) : (joinT xs).size ≤ xs.length * (B + 1) + 1 := by
  unfold joinT orT
  split
  · show 1 ≤ _; omega
  · have := join_le 44 B (xs.map (·.data.toList)) (by
      intro y hy
      obtain ⟨z, hz, rfl⟩ := List.mem_map.1 hy
      have := h z hz; rw [Lib.size_eq] at this; exact this)
    rw [List.length_map] at this
    show (Lib.join (xs.map (·.data.toList)) [44]).toArray.size ≤ _
    rw [List.size_toArray]
    omega
theorem itoa_size (n : Int) (h0 : -9223372036854775808 ≤ n) (h1 : n ≤ 9223372036854775807) : (itoaB n).size ≤ 21 := Lib.itoa_length_le n h0 h1
theorem comma_le (B : Nat) (xs : List ByteArray) (h : ∀ x ∈ xs, x.size ≤ B) (hn : xs.length ≤ 1000000) (hB : B ≤ 100000) : (Lib.join (xs.map (·.data.toList)) [44]).length ≤ 140737488355328 := by
  have := join_le 44 B (xs.map (·.data.toList)) (by
    intro y hy
    obtain ⟨z, hz, rfl⟩ := List.mem_map.1 hy
    have := h z hz; rw [Lib.size_eq] at this; exact this)
  rw [List.length_map] at this
  have h2 : xs.length * (B + 1) ≤ 1000000 * 100001 := Nat.mul_le_mul hn (by omega)
  omega
theorem orT_size (a : ByteArray) : (orT a ⟨#[126]⟩).size ≤ a.size + 1 := by
  unfold orT
  split
  · show 1 ≤ _; omega
  · omega
theorem two_cells1 (W : World) (t : Nat) (a b : Value) : (W.alloc (.cells #[a, b] t)).cell? ⟨W.heap.size, 0, none⟩ = some a ∧ (W.alloc (.cells #[a, b] t)).cell? ⟨W.heap.size, 1, none⟩ = some b := two_cells0 W t a b _ rfl
theorem join7 (f0 f1 f2 f3 f4 f5 f6 : ByteArray) (h : ∀ x ∈ [f0, f1, f2, f3, f4, f5, f6], x.size ≤ 200000000000) (W : World) :
    Calls Tryz.prog 69 #[.slice (some ⟨W.heap.size, 0, none⟩) 7 7, .string ⟨#[32]⟩] (W.alloc (.cells #[.string f0, .string f1, .string f2, .string f3, .string f4, .string f5, .string f6] 9)) (Ret (W.alloc (.cells #[.string f0, .string f1, .string f2, .string f3, .string f4, .string f5, .string f6] 9)) (.string ⟨(Lib.join ([f0, f1, f2, f3, f4, f5, f6].map (·.data.toList)) [32]).toArray⟩)) := by
  have hb : Blk (W.alloc (.cells #[.string f0, .string f1, .string f2, .string f3, .string f4, .string f5, .string f6] 9)) W.heap.size 9 #[.string f0, .string f1, .string f2, .string f3, .string f4, .string f5, .string f6] (0, 0) := World.alloc_heap_new _ _
  refine (Tryz.strings_Join W.heap.size 0 7 [f0, f1, f2, f3, f4, f5, f6] ⟨#[32]⟩ _ (fun j x hj => ?_) (by simp) (by simp) (by simp) ?_)
  · have := hb.cell j
    rw [Nat.zero_add, this]
    rcases j with _ | _ | _ | _ | _ | _ | _ | j <;> simp at hj ⊢ <;> first | exact hj | exact congrArg _ hj | skip
  · have := join_le 32 200000000000 ([f0, f1, f2, f3, f4, f5, f6].map (·.data.toList)) (by
      intro y hy
      obtain ⟨z, hz, rfl⟩ := List.mem_map.1 hy
      have := h z hz; rw [Lib.size_eq] at this; exact this)
    rw [List.length_map] at this
    simp only [List.length_cons, List.length_nil] at this
    show (Lib.join ([f0, f1, f2, f3, f4, f5, f6].map (·.data.toList)) [32]).length ≤ _
    omega
set_option maxHeartbeats 8000000 in
theorem text_valid (c : CondV) (m : CondMem) (w : World) (hR : CondReads w c m) (hc : CondFits c) (hv : validC c = true) (hE : Env w) (hT : Tab w) : Calls Tryz.prog 22 #[CondMem.val c m] w (Ret w (.tuple #[.string (textC c), .int .i64 0])) := by
  have ok := (valid_iff c).1 hv
  have c1 := fun W (hb : Below w.heap.size w W) => hv ▸ condValid_any c m W (hR.keep hb) hc.p hc.cl hc.co hc.n1 hc.n2 hc.n3 (hE.keep hb)
  have ci := fun n (h0 : -9223372036854775808 ≤ n) (h1 : n ≤ 9223372036854775807) W (hb : Below w.heap.size w W) => itoa_any n W h0 h1 (hT.keep hb)
  have hfr := ok.fr0; have hfr1 := ok.fr1; have hti := ok.to0; have hti1 := ok.to1; have hus := ok.us0; have hus1 := ok.us1
  have k1 := ci c.fr (by omega) (by omega)
  have k2 := ci c.till (by omega) (by omega)
  have k3 := ci c.us (by omega) (by omega)
  have hs1 := itoa_size c.fr (by omega) (by omega)
  have hs2 := itoa_size c.till (by omega) (by omega)
  have hs3 := itoa_size c.us (by omega) (by omega)
  have hs4 := orT_size c.pat
  have hsi : ∀ x ∈ c.si, 0 ≤ x ∧ x < 64 := fun x hx => by have := ok.si x hx; unfold siteB at this; simpa using this
  have hss : ∀ y ∈ c.si.map itoaB, y.size ≤ 21 := fun y hy => by
    obtain ⟨x, hx, rfl⟩ := List.mem_map.1 hy
    have := hsi x hx
    exact itoa_size x (by omega) (by omega)
  have hs5 := joinT_len 100000 c.cl hc.cl
  have hs6 := joinT_len 100000 c.co hc.co
  have hs7 := joinT_len 21 (c.si.map itoaB) hss
  rw [List.length_map] at hs7
  have j1 := fun W (hb : Below w.heap.size w W) => joinS_any 68 (enters_of Tryz.func68 (by kernel_rfl) rfl) id m.A c.cl.length m.ca c.cl W (fun x hx W' _ => sclone_any x W' (by have := hc.cl x hx; omega)) (hR.cl.keep hb) hc.n1 (by rw [List.map_id]; exact comma_le 100000 c.cl hc.cl hc.n1 (by omega))
  have j2 := fun W (hb : Below w.heap.size w W) => joinS_any 68 (enters_of Tryz.func68 (by kernel_rfl) rfl) id m.B c.co.length m.cb c.co W (fun x hx W' _ => sclone_any x W' (by have := hc.co x hx; omega)) (hR.co.keep hb) hc.n2 (by rw [List.map_id]; exact comma_le 100000 c.co hc.co hc.n2 (by omega))
  have j3 := fun W (hb : Below w.heap.size w W) => joinI_any 70 (enters_of Tryz.func70 (by kernel_rfl) rfl) itoaB m.S c.si.length m.cs c.si W (fun x hx W' hb' => itoa_any x W' (by have := hsi x hx; omega) (by have := hsi x hx; omega) (hT.keep (bstep hb hb'))) (hR.si.keep hb) hc.n3 (comma_le 21 _ hss (by rw [List.length_map]; exact hc.n3) (by omega))
  rw [List.map_id] at j1 j2
  have cO := fun (g cc : Nat) (W : World) h0 h1 => cmpOr_any g cc c.pat ⟨#[126]⟩ W h0 h1
  have hor : (if c.pat.size = 0 then (⟨#[126]⟩ : ByteArray) else c.pat) = orT c.pat ⟨#[126]⟩ := rfl
  rw [hor] at cO
  have hn1 := hc.n1; have hn2 := hc.n2; have hn3 := hc.n3; have hp := hc.p
  have m1 : c.cl.length * 100001 ≤ 1000000 * 100001 := Nat.mul_le_mul hn1 (Nat.le_refl _)
  have m2 : c.co.length * 100001 ≤ 1000000 * 100001 := Nat.mul_le_mul hn2 (Nat.le_refl _)
  have m3 : c.si.length * 22 ≤ 1000000 * 22 := Nat.mul_le_mul hn3 (Nat.le_refl _)
  have cJ := join7 (itoaB c.fr) (itoaB c.till) (orT c.pat ⟨#[126]⟩) (joinT c.cl) (joinT c.co) (joinT (c.si.map itoaB)) (itoaB c.us) (by
    intro x hx
    simp only [List.mem_cons, List.not_mem_nil, or_false] at hx
    rcases hx with rfl | rfl | rfl | rfl | rfl | rfl | rfl <;> omega)
  unfold textC fieldsC
  generalize (⟨(Lib.join ([itoaB c.fr, itoaB c.till, orT c.pat ⟨#[126]⟩, joinT c.cl, joinT c.co, joinT (c.si.map itoaB), itoaB c.us].map (·.data.toList)) [32]).toArray⟩ : ByteArray) = T at *
  generalize itoaB c.fr = u1 at *
  generalize itoaB c.till = u2 at *
  generalize itoaB c.us = u3 at *
  generalize orT c.pat ⟨#[126]⟩ = pp at *
  generalize joinT c.cl = l1 at *
  generalize joinT c.co = l2 at *
  generalize joinT (c.si.map itoaB) = l3 at *
  obtain ⟨fr, till, pat, cl, co, si, us⟩ := c
  obtain ⟨A, ca, B, cb, S, cs⟩ := m
  unfold CondMem.val at c1 ⊢
  dsimp only at c1 k1 k2 k3 j1 j2 j3 cO ⊢
  generalize cl.length = na at *
  generalize co.length = nb at *
  generalize si.length = ns at *
  have C1 := Lib.hid c1; have K1 := Lib.hid k1; have K2 := Lib.hid k2; have K3 := Lib.hid k3; have J1 := Lib.hid j1; have J2 := Lib.hid j2; have J3 := Lib.hid j3; have CO := Lib.hid cO; have CJ := Lib.hid cJ
  clear c1 ci k1 k2 k3 j1 j2 j3 cO cJ hor hs1 hs2 hs3 hs4 hs5 hs6 hs7 hss hsi m1 m2 m3 hn1 hn2 hn3 hp hfr hfr1 hti hti1 hus hus1 ok hv hc hR hE hT
  go_enter Tryz.func22, Tryz.ntmps22
  go_upto_region 4 with (go_at_call 19; refine (C1.out _ (by (repeat (first | exact .refl _ _ | assumption | refine .drew ?_ | refine balloc ?_ _ | refine bdrewN ?_ _ | refine .setCell ?_ (by simp <;> omega) _ | refine bstep ?_ (by assumption))))).mono ?_; rintro e w2 ⟨rfl, hb2⟩; have hX2 : CBox w2 w.heap.size fr till pat A na ca B nb cb S ns cs us := Blk.keep (World.alloc_heap_new _ _) hb2; obtain ⟨x0, x1, x2, x3, x4, x5, x6⟩ := hX2.facts; have hbw : Below w.heap.size w w2 := (by (repeat (first | exact .refl _ _ | assumption | refine .drew ?_ | refine balloc ?_ _ | refine bdrewN ?_ _ | refine .setCell ?_ (by simp <;> omega) _ | refine bstep ?_ (by assumption)))))
  clear hX2 hb2
  go_region_held3 (fun w' => w'.cell? ⟨w.heap.size, 0, none⟩ = some (.int .i64 fr) ∧ w'.cell? ⟨w.heap.size, 1, none⟩ = some (.int .i64 till) ∧ w'.cell? ⟨w.heap.size, 2, none⟩ = some (.string pat) ∧ w'.cell? ⟨w.heap.size, 3, none⟩ = some (.slice A na ca) ∧ w'.cell? ⟨w.heap.size, 4, none⟩ = some (.slice B nb cb) ∧ w'.cell? ⟨w.heap.size, 5, none⟩ = some (.slice S ns cs) ∧ w'.cell? ⟨w.heap.size, 6, none⟩ = some (.int .i64 us) ∧ Below w.heap.size w w')
    (first | exact ⟨x0, x1, x2, x3, x4, x5, x6, Below.drew hbw⟩ | (go_split_ands; refine ⟨?_, ?_, ?_, ?_, ?_, ?_, ?_, ?_⟩ <;> first | assumption | (refine Lib.cell?_alloc_some _ ?_; assumption) | (refine balloc ?_ _; assumption) | exact Below.drew (balloc hbw _) | (refine cell_keep hb10 ?_; assumption) | (refine bstep ?_ hb10; assumption) | (refine cell_keep hb9 ?_; assumption) | (refine bstep ?_ hb9; assumption) | (refine cell_keep hb8 ?_; assumption) | (refine bstep ?_ hb8; assumption) | (refine cell_keep hb7 ?_; assumption) | (refine bstep ?_ hb7; assumption) | (refine cell_keep hb6 ?_; assumption) | (refine bstep ?_ hb6; assumption) | (refine cell_keep hb5 ?_; assumption) | (refine bstep ?_ hb5; assumption) | (refine cell_keep hb4 ?_; assumption) | (refine bstep ?_ hb4; assumption) | (refine cell_keep hb3 ?_; assumption) | (refine bstep ?_ hb3; assumption)))
    (first | (go_at_call 70; refine (K1.out _ (by go_split_ands; assumption)).mono ?_; rintro e w3 ⟨rfl, hb3⟩; clear K1) | (go_at_call 70; refine (K2.out _ (by go_split_ands; assumption)).mono ?_; rintro e w4 ⟨rfl, hb4⟩; clear K2) | (go_at_call 34; (first | (with_reducible refine (CO.out w4.heap.size 2 (w4.alloc (.cells #[.string pat, .string ⟨#[126]⟩] 9)) (two_cells1 w4 9 _ _).1 (two_cells1 w4 9 _ _).2).mono ?_) | (with_reducible refine (CO.out w3.heap.size 2 w4 (cell_keep hb4 (two_cells1 w3 9 (.string pat) (.string ⟨#[126]⟩)).1) (cell_keep hb4 (two_cells1 w3 9 (.string pat) (.string ⟨#[126]⟩)).2)).mono ?_) | (have s0 : w3.cell? ⟨w2.heap.size, 0, none⟩ = some (.string pat) := cell_keep hb3 (two_cells1 w2 9 (.string pat) (.string ⟨#[126]⟩)).1; have s1 : w3.cell? ⟨w2.heap.size, 1, none⟩ = some (.string ⟨#[126]⟩) := cell_keep hb3 (two_cells1 w2 9 (.string pat) (.string ⟨#[126]⟩)).2; refine (CO.out w2.heap.size 2 w4 (cell_keep hb4 s0) (cell_keep hb4 s1)).mono ?_; clear s0 s1)); rintro e w5 ⟨rfl, hb5⟩) | (go_at_call 71; refine (J1.out _ (by go_split_ands; assumption)).mono ?_; rintro e w6 ⟨rfl, hb6⟩; clear J1) | (go_at_call 71; refine (J2.out _ (by go_split_ands; assumption)).mono ?_; rintro e w7 ⟨rfl, hb7⟩; clear J2) | (go_at_call 72; refine (J3.out _ (by go_split_ands; assumption)).mono ?_; rintro e w8 ⟨rfl, hb8⟩; clear J3) | (go_at_call 70; refine (K3.out _ (by go_split_ands; assumption)).mono ?_; rintro e w9 ⟨rfl, hb9⟩; clear K3) | (go_at_call 69; refine (CJ.out w9).mono ?_; rintro e w10 ⟨rfl, hb10⟩))
  all_goals go_wp2
  all_goals go_ret2
  all_goals exact ⟨rfl, by go_split_ands; assumption⟩
end Go.Proofs.YtocgkpdolgnbgaaGreatDoor
namespace Go.Proofs.YtocgkpdolgnbgaaGreatDoor
open Go.RowKit Go.Sort
set_option linter.unusedVariables false
set_option linter.unusedSimpArgs false
set_option maxRecDepth 100000
def bothP (p q : ByteArray) : Option (Option Pat) := match compileB p, compileB q with
  | some x, some y => some (commonP x y)
  | _, _ => none
def BothPost (r : Option (Option Pat)) (w : World) (e : Ending) (w' : World) : Prop :=
  Below w.heap.size w w' ∧ match r with
  | none => ∃ (k : Nat) (t : ByteArray) (A : Option Addr) (n c : Nat) (b : Bool), e = .returned (.tuple #[.agg #[.int .i64 k, .string t, .slice A n c, .bool b], .bool false, .int .i64 1])
  | some none => ∃ (k : Nat) (t : ByteArray) (A : Option Addr) (n c : Nat) (b : Bool), e = .returned (.tuple #[.agg #[.int .i64 k, .string t, .slice A n c, .bool b], .bool false, .int .i64 0])
  | some (some p) => ∃ A c, e = .returned (.tuple #[.agg #[.int .i64 p.cust.kind, .string p.cust.text, .slice A p.parts.length c, .bool p.tail], .bool true, .int .i64 0]) ∧ Reads w' 2 A p.parts.length (partCells p.parts)
theorem mtL_good : ∀ (xs ys acc r : List Part), PartsOk xs → PartsOk ys → PartsOk acc → mtL acc xs ys = some r → PartsOk r ∧ r.length = acc.length + xs.length
  | [], ys, acc, r, _, _, h, e => by
    have : mtL acc [] ys = some acc := by cases ys <;> rfl
    rw [this] at e; injection e with e; subst e; exact ⟨h, by simp⟩
  | a :: xs, [], acc, r, hx, hy, h, e => by
    rw [mtL] at e
    have := mtL_good xs [] (acc ++ [a]) r (fun p hp => hx p (by simp [hp])) hy (fun p hp => by
      rcases List.mem_append.1 hp with hp | hp
      · exact h p hp
      · rw [List.mem_singleton.1 hp]; exact hx a (by simp)) e
    exact ⟨this.1, by rw [this.2]; simp; omega⟩
  | a :: xs, b :: ys, acc, r, hx, hy, h, e => by
    rw [mtL] at e
    split at e
    · have ha := hx a (by simp)
      have hb := hy b (by simp)
      have := mtL_good xs ys (acc ++ [meetP a b]) r (fun p hp => hx p (by simp [hp])) (fun p hp => hy p (by simp [hp])) (fun p hp => by
        rcases List.mem_append.1 hp with hp | hp
        · exact h p hp
        · rw [List.mem_singleton.1 hp]; exact meetP_ok ha.1 hb.1 ha.2 hb.2) e
      exact ⟨this.1, by rw [this.2]; simp; omega⟩
    · cases e
theorem commonO_good {x y z : Pat} (hx : PatGood x) (hy : PatGood y) (h : commonO x y = some z) : PatGood z := by
  unfold commonO at h
  split at h
  · cases h
  · obtain ⟨l, hl, rfl⟩ := Option.map_eq_some_iff.1 h
    have := mtL_good _ _ [] l hx.parts hy.parts (fun p hp => by cases hp) hl
    have hm := meetP_ok hx.kind hy.kind hx.text hy.text
    have hn := hx.num
    exact ⟨hm.1, hm.2, this.1, by show l.length ≤ 32; rw [this.2]; simpa using hn⟩
theorem commonP_good {x y z : Pat} (hx : PatGood x) (hy : PatGood y) (h : commonP x y = some z) : PatGood z := by
  unfold commonP at h
  split at h
  · exact commonO_good hy hx h
  · exact commonO_good hx hy h
theorem bothP_good {p q : ByteArray} {z : Pat} (hp : p.size ≤ 100000) (hq : q.size ≤ 100000) (h : bothP p q = some (some z)) : PatGood z := by
  unfold bothP at h
  cases h1 : compileB p with
  | none => rw [h1] at h; cases h
  | some x =>
    cases h2 : compileB q with
    | none => rw [h1, h2] at h; cases h
    | some y =>
      rw [h1, h2] at h
      injection h with h
      exact commonP_good (compile_good p hp x h1) (compile_good q hq y h2) h
theorem compPost_any {r : Option Pat} {w w' : World} {e : Ending} (h : CompPost r w e w') : Below w.heap.size w w' ∧ ∃ (k : Nat) (t : ByteArray) (A : Option Addr) (n c : Nat) (b : Bool), e = .returned (.tuple #[.agg #[.int .i64 k, .string t, .slice A n c, .bool b], .bool r.isSome]) := by
  refine ⟨h.1, ?_⟩
  cases r with
  | none => obtain ⟨_, k, t, A, n, c, b, rfl⟩ := h; exact ⟨k, t, A, n, c, b, rfl⟩
  | some p => obtain ⟨_, A, c, rfl, _⟩ := h; exact ⟨_, _, _, _, _, _, rfl⟩
theorem BothPost.none_ {w w' : World} (k : Nat) (t : ByteArray) (A : Option Addr) (n c : Nat) (b : Bool) (hb : Below w.heap.size w w') : BothPost none w (.returned (.tuple #[.agg #[.int .i64 k, .string t, .slice A n c, .bool b], .bool false, .int .i64 1])) w' := ⟨hb, k, t, A, n, c, b, rfl⟩
set_option maxHeartbeats 4000000 in
theorem both_any (p q : ByteArray) (w : World) (hp : p.size ≤ 100000) (hq : q.size ≤ 100000) (hE : Env w) : Calls Tryz.prog 93 #[.string p, .string q] w (BothPost (bothP p q) w) := by
  have c1 := fun W h => compile_any p W hp h
  have c2 := fun W h => compile_any q W hq h
  have g1 := compile_good p hp
  have g2 := compile_good q hq
  unfold bothP
  generalize compileB p = r1 at *
  generalize compileB q = r2 at *
  have hbad : r1.isSome = false ∨ r2.isSome = false → Calls Tryz.prog 93 #[.string p, .string q] w (BothPost none w) := by
    intro hbad
    have H1 := Lib.hid (fun W h => (c1 W h).mono fun e w' k => compPost_any k)
    have H2 := Lib.hid (fun W h => (c2 W h).mono fun e w' k => compPost_any k)
    clear c1 c2 g1 g2
    generalize r1.isSome = o1 at *
    generalize r2.isSome = o2 at *
    clear r1 r2
    cases o1
    · clear hbad
      go_enter Tryz.func93, Tryz.ntmps93
      go_wp2_with (first | (go_at_call 97; refine (H1.out _ (Env.keep hE (balloc (Below.refl _ _) _))).mono ?_; rintro e w1 ⟨hb1, k1, t1, A1, n1, d1, b1, rfl⟩; have hE1 := Env.keep hE (blater _ hb1); have hB1 : PBox w1 w.heap.size 0 ⟨#[]⟩ (.slice none 0 0) false := (hb1.block w.heap.size (by simp)).trans (World.alloc_heap_new _ _); clear hE) | (go_at_call 97; refine (H2.out _ (Env.keep hE1 (balloc (Below.refl _ _) _))).mono ?_; rintro e w2 ⟨hb2, k2, t2, A2, n2, d2, b2, rfl⟩; have hB2 : PBox w2 w.heap.size 0 ⟨#[]⟩ (.slice none 0 0) false := Blk.keep hB1 (blater _ hb2); have hbw2 : Below w.heap.size w w2 := bstep (blater _ hb1) (blater _ hb2); obtain ⟨c0, c1, c2, c3, f0, f1, f2, f3⟩ := hB2.facts; have hz2 : w.heap.size < w2.heap.size := Blk.lt hB2; clear hE1))
      exact bodyPost_ret (v := .tuple #[.agg #[.int .i64 0, .string ⟨#[]⟩, .slice none 0 0, .bool false], .bool false, .int .i64 1]) (by simp [results, Tryz.results93, go_sem, hz2, c0, c1, c2, c3, f0, f1, f2, f3]) rfl (BothPost.none_ _ _ _ _ _ _ (by (repeat (first | exact .refl _ _ | assumption | refine .drew ?_ | refine balloc ?_ _ | refine bdrewN ?_ _ | refine .setCell ?_ (by simp <;> omega) _ | refine bstep ?_ (by assumption)))))
    · obtain rfl : o2 = false := by simpa using hbad
      clear hbad
      go_enter Tryz.func93, Tryz.ntmps93
      go_wp2_with (first | (go_at_call 97; refine (H1.out _ (Env.keep hE (balloc (Below.refl _ _) _))).mono ?_; rintro e w1 ⟨hb1, k1, t1, A1, n1, d1, b1, rfl⟩; have hE1 := Env.keep hE (blater _ hb1); have hB1 : PBox w1 w.heap.size 0 ⟨#[]⟩ (.slice none 0 0) false := (hb1.block w.heap.size (by simp)).trans (World.alloc_heap_new _ _); clear hE) | (go_at_call 97; refine (H2.out _ (Env.keep hE1 (balloc (Below.refl _ _) _))).mono ?_; rintro e w2 ⟨hb2, k2, t2, A2, n2, d2, b2, rfl⟩; have hB2 : PBox w2 w.heap.size 0 ⟨#[]⟩ (.slice none 0 0) false := Blk.keep hB1 (blater _ hb2); have hbw2 : Below w.heap.size w w2 := bstep (blater _ hb1) (blater _ hb2); obtain ⟨c0, c1, c2, c3, f0, f1, f2, f3⟩ := hB2.facts; have hz2 : w.heap.size < w2.heap.size := Blk.lt hB2; clear hE1))
      exact bodyPost_ret (v := .tuple #[.agg #[.int .i64 0, .string ⟨#[]⟩, .slice none 0 0, .bool false], .bool false, .int .i64 1]) (by simp [results, Tryz.results93, go_sem, hz2, c0, c1, c2, c3, f0, f1, f2, f3]) rfl (BothPost.none_ _ _ _ _ _ _ (by (repeat (first | exact .refl _ _ | assumption | refine .drew ?_ | refine balloc ?_ _ | refine bdrewN ?_ _ | refine .setCell ?_ (by simp <;> omega) _ | refine bstep ?_ (by assumption)))))
  cases r1 with
  | none => exact hbad (.inl rfl)
  | some x =>
    cases r2 with
    | none => exact hbad (.inr rfl)
    | some y =>
      clear hbad
      have cC := fun A B ca cb W hA hB => common_any x y A B ca cb W hA hB (g1 x rfl) (g2 y rfl)
      clear g1 g2
      dsimp only
      generalize commonP x y = R at *
      obtain ⟨⟨xk, xt⟩, xs, xl⟩ := x
      obtain ⟨⟨yk, yt⟩, ys, yl⟩ := y
      unfold patV at cC
      dsimp only at cC
      have H1 := Lib.hid c1
      have H2 := Lib.hid c2
      have HC := Lib.hid cC
      clear c1 c2 cC
      unfold CompPost at H1 H2
      dsimp only at H1 H2
      cases R with
      | none =>
        go_enter Tryz.func93, Tryz.ntmps93
        go_wp2_with (first | (go_at_call 97; refine (H1.out _ (Env.keep hE (balloc (Below.refl _ _) _))).mono ?_; rintro e w1 ⟨hb1, A1, d1, rfl, hR1, _⟩; have hE1 := Env.keep hE (blater _ hb1); have hB1 : PBox w1 w.heap.size 0 ⟨#[]⟩ (.slice none 0 0) false := (hb1.block w.heap.size (by simp)).trans (World.alloc_heap_new _ _); have HR1 := Lib.hid hR1; clear hE hR1) | (go_at_call 97; refine (H2.out _ (Env.keep hE1 (balloc (Below.refl _ _) _))).mono ?_; rintro e w2 ⟨hb2, A2, d2, rfl, hR2, _⟩; have hB2 : PBox w2 w.heap.size 0 ⟨#[]⟩ (.slice none 0 0) false := Blk.keep hB1 (blater _ hb2); have hbw2 : Below w.heap.size w w2 := bstep (blater _ hb1) (blater _ hb2); have hX2 : PBox w2 w1.heap.size xk xt (.slice A1 xs.length d1) xl := (hb2.block w1.heap.size (by simp)).trans (World.alloc_heap_new _ _); obtain ⟨x0, x1, x2, x3, _⟩ := hX2.facts; have hz12 : w1.heap.size < w2.heap.size := Blk.lt hX2; have HR2 := Lib.hid hR2; have HR1' := Lib.hid (HR1.out.keep (blater _ hb2)); clear hE1 hR2 HR1) | (go_at_call 129; refine (HC.out _ _ _ _ _ (HR1'.out.keep (balloc (Below.refl _ _) _)) (HR2.out.keep (balloc (Below.refl _ _) _))).mono ?_; rintro e w3 ⟨hb3, k, t, A, n, c, b, rfl⟩; have hB3 : PBox w3 w.heap.size 0 ⟨#[]⟩ (.slice none 0 0) false := Blk.keep hB2 (blater _ hb3); obtain ⟨c0, c1, c2, c3, f0, f1, f2, f3⟩ := hB3.facts; have hz3 : w.heap.size < w3.heap.size := Blk.lt hB3; have hbw3 : Below w.heap.size w w3 := bstep hbw2 (blater _ hb3); clear x0 x1 x2 x3))
        exact bodyPost_ret (v := .tuple #[.agg #[.int .i64 k, .string t, .slice A n c, .bool b], .bool false, .int .i64 0]) (by simp [results, Tryz.results93, go_sem, hz3, c0, c1, c2, c3, f0, f1, f2, f3]) rfl ⟨by (repeat (first | exact .refl _ _ | assumption | refine .drew ?_ | refine balloc ?_ _ | refine bdrewN ?_ _ | refine .setCell ?_ (by simp <;> omega) _ | refine bstep ?_ (by assumption))), k, t, A, n, c, b, rfl⟩
      | some z =>
        obtain ⟨⟨zk, zt⟩, zs, zl⟩ := z
        go_enter Tryz.func93, Tryz.ntmps93
        go_wp2_with (first | (go_at_call 97; refine (H1.out _ (Env.keep hE (balloc (Below.refl _ _) _))).mono ?_; rintro e w1 ⟨hb1, A1, d1, rfl, hR1, _⟩; have hE1 := Env.keep hE (blater _ hb1); have hB1 : PBox w1 w.heap.size 0 ⟨#[]⟩ (.slice none 0 0) false := (hb1.block w.heap.size (by simp)).trans (World.alloc_heap_new _ _); have HR1 := Lib.hid hR1; clear hE hR1) | (go_at_call 97; refine (H2.out _ (Env.keep hE1 (balloc (Below.refl _ _) _))).mono ?_; rintro e w2 ⟨hb2, A2, d2, rfl, hR2, _⟩; have hB2 : PBox w2 w.heap.size 0 ⟨#[]⟩ (.slice none 0 0) false := Blk.keep hB1 (blater _ hb2); have hbw2 : Below w.heap.size w w2 := bstep (blater _ hb1) (blater _ hb2); have hX2 : PBox w2 w1.heap.size xk xt (.slice A1 xs.length d1) xl := (hb2.block w1.heap.size (by simp)).trans (World.alloc_heap_new _ _); obtain ⟨x0, x1, x2, x3, _⟩ := hX2.facts; have hz12 : w1.heap.size < w2.heap.size := Blk.lt hX2; have HR2 := Lib.hid hR2; have HR1' := Lib.hid (HR1.out.keep (blater _ hb2)); clear hE1 hR2 HR1))
        refine (HC.out _ _ _ _ _ (HR1'.out.keep (balloc (Below.refl _ _) _)) (HR2.out.keep (balloc (Below.refl _ _) _))).mono ?_; rintro e w3 ⟨hb3, A, c, rfl, hR3, hA3⟩; have hB3 : PBox w3 w.heap.size 0 ⟨#[]⟩ (.slice none 0 0) false := Blk.keep hB2 (blater _ hb3); obtain ⟨c0, c1, c2, c3, f0, f1, f2, f3⟩ := hB3.facts; have hz3 : w.heap.size < w3.heap.size := Blk.lt hB3; have hbw3 : Below w.heap.size w w3 := bstep hbw2 (blater _ hb3); have HR3 := Lib.hid hR3; have hz2 : w.heap.size < w2.heap.size := Blk.lt hB2; have hA3' : ∀ a, A = some a → a.block ≠ w.heap.size := (fun a ha => by have := hA3 a ha; simp at this; omega); have HA3 := Lib.hid hA3'; clear x0 x1 x2 x3 hR3 hA3 hA3'
        go_wp2_with fail
        exact bodyPost_ret (v := .tuple #[.agg #[.int .i64 zk, .string zt, .slice A zs.length c, .bool zl], .bool true, .int .i64 0]) (by simp [results, Tryz.results93, go_sem, hz3, c0, c1, c2, c3, f0, f1, f2, f3]) rfl ⟨by (repeat (first | exact .refl _ _ | assumption | refine .drew ?_ | refine balloc ?_ _ | refine bdrewN ?_ _ | refine .setCell ?_ (by simp <;> omega) _ | refine bstep ?_ (by assumption))), A, c, rfl, ((((HR3.out.set_ _ _ HA3.out).set_ _ _ HA3.out).set_ _ _ HA3.out).set_ _ _ HA3.out).keep (balloc (Below.refl _ _) _)⟩
end Go.Proofs.YtocgkpdolgnbgaaGreatDoor
namespace Go.Proofs.YtocgkpdolgnbgaaGreatDoor
open Go.RowKit Go.Sort
set_option linter.unusedVariables false
set_option linter.unusedSimpArgs false
set_option maxRecDepth 100000
def noAsk : AskV := ⟨⟨#[]⟩, ⟨#[]⟩, ⟨#[]⟩, 0, 0, 0⟩
def addrOf (p : ByteArray) : ByteArray := match bothP (patT p) ⟨#[42, 47, 42, 42]⟩ with
  | some (some z) => exText z
  | _ => ⟨#[]⟩
def sampleC (c : CondV) : AskV := ⟨addrOf c.pat, c.cl.headD ⟨#[97]⟩, c.co.headD ⟨#[97, 97]⟩, c.si.headD 0, c.fr, c.fr⟩
def outL {α : Type} [DecidableEq α] (a b all : List α) : Option α := (if a.isEmpty then all else a).find? fun x => !allowsL b x
def allClients : List ByteArray := (List.range 33).map fun i => ⟨#[99, UInt8.ofNat (48 + i / 10), UInt8.ofNat (48 + i % 10)]⟩
def allCountries : List ByteArray := (List.range 676).map fun i => ⟨#[UInt8.ofNat (97 + i / 26), UInt8.ofNat (97 + i % 26)]⟩
def allSites : List Int := (List.range 64).map Int.ofNat
def impR (a b : CondV) : Bool × AskV :=
  if a.till ≤ a.fr then (true, noAsk)
  else if a.fr < b.fr then (false, sampleC a)
  else if b.till < a.till then (false, { sampleC a with lo := a.till - 1, hi := a.till - 1 })
  else match compileB (patT b.pat), compileB (patT a.pat) with
    | some x, some y => if coverB x y then (match outL a.cl b.cl allClients, outL a.co b.co allCountries, outL a.si b.si allSites with
        | some s, _, _ => (false, { sampleC a with client := s })
        | none, some s, _ => (false, { sampleC a with country := s })
        | none, none, some n => (false, { sampleC a with site := n })
        | none, none, none => (true, noAsk))
      else (false, { sampleC a with addr := coverW x y })
    | _, _ => (true, noAsk)
end Go.Proofs.YtocgkpdolgnbgaaGreatDoor
namespace Go.Proofs.YtocgkpdolgnbgaaGreatDoor
open Go.RowKit Go.Sort
set_option linter.unusedVariables false
set_option linter.unusedSimpArgs false
set_option maxRecDepth 100000
theorem bothPost_bad {r : Option (Option Pat)} {w w' : World} {e : Ending} (h : BothPost r w e w') (hr : r = none ∨ r = some none) : Below w.heap.size w w' ∧ ∃ (k : Nat) (t : ByteArray) (A : Option Addr) (n c : Nat) (b : Bool), e = .returned (.tuple #[.agg #[.int .i64 k, .string t, .slice A n c, .bool b], .bool false, .int .i64 (if r.isNone then 1 else 0)]) := by
  rcases hr with rfl | rfl
  · obtain ⟨hb, k, t, A, n, c, b, rfl⟩ := h; exact ⟨hb, k, t, A, n, c, b, rfl⟩
  · obtain ⟨hb, k, t, A, n, c, b, rfl⟩ := h; exact ⟨hb, k, t, A, n, c, b, rfl⟩
def bothV (r : Option (Option Pat)) : Value := match r with
  | none => .tuple #[.string ⟨#[]⟩, .bool false, .int .i64 1]
  | some none => .tuple #[.string ⟨#[]⟩, .bool false, .int .i64 0]
  | some (some z) => .tuple #[.string (patS z), .bool true, .int .i64 0]
def meetV (r : Option (Option Pat)) : Value := match r with
  | none => .tuple #[.bool false, .string ⟨#[]⟩, .int .i64 1]
  | some none => .tuple #[.bool false, .string ⟨#[]⟩, .int .i64 0]
  | some (some z) => .tuple #[.bool true, .string (joinS (withP z.cust.kind z.cust.text ⟨#[97]⟩ :: wordsL z.parts)), .int .i64 0]
theorem withP_le {k : Nat} {t b : ByteArray} (ht : t.size ≤ 100000) (hb : b.size ≤ 1) : (withP k t b).size ≤ 200000 := by have := withP_size k t b; omega
theorem wordsL_le {ps : List Part} (h : PartsOk ps) : ∀ x ∈ wordsL ps, x.size ≤ 200000 := by
  intro x hx
  obtain ⟨p, hp, rfl⟩ := List.mem_map.1 hx
  exact withP_le (h p hp).2 (Nat.le_refl _)
set_option maxHeartbeats 2000000 in
theorem addrBoth_any (p q : ByteArray) (w : World) (hp : p.size ≤ 100000) (hq : q.size ≤ 100000) (hE : Env w) : Calls Tryz.prog 37 #[.string p, .string q] w (Ret w (bothV (bothP p q))) := by
  have c0 := both_any p q w hp hq hE
  have hg := fun z => bothP_good (z := z) hp hq
  generalize bothP p q = r at *
  clear hE
  by_cases hr : r = none ∨ r = some none
  · have H0 := Lib.hid (c0.mono fun e w' h => bothPost_bad h hr)
    clear c0 hg
    have hv : bothV r = .tuple #[.string ⟨#[]⟩, .bool false, .int .i64 (if r.isNone then 1 else 0)] := by rcases hr with rfl | rfl <;> rfl
    rw [hv]
    clear hv hr
    generalize (if r.isNone = true then (1 : Int) else 0) = er at *
    go_enter Tryz.func37, Tryz.ntmps37
    go_wp2_with (go_at_call 93; refine H0.out.mono ?_; rintro e w1 ⟨hb1, k1, t1, A1, n1, d1, b1, rfl⟩)
    go_ret3
    exact ⟨rfl, by (repeat (first | exact .refl _ _ | assumption | refine .drew ?_ | refine balloc ?_ _ | refine bdrewN ?_ _ | refine .setCell ?_ (by simp <;> omega) _ | refine bstep ?_ (by assumption)))⟩
  · obtain ⟨z, rfl⟩ : ∃ z, r = some (some z) := by
      rcases r with _ | _ | z
      · exact absurd (.inl rfl) hr
      · exact absurd (.inr rfl) hr
      · exact ⟨z, rfl⟩
    have g := hg z rfl
    have H0 := Lib.hid c0
    clear c0 hg hr
    show Calls Tryz.prog 37 #[.string p, .string q] w (Ret w (.tuple #[.string (patS z), .bool true, .int .i64 0]))
    have hn := g.num
    have cS := fun A c W h => patString_any z.cust.kind z.cust.text A z.parts.length c z.tail z.parts W h g.parts (by omega) g.kind g.text
    obtain ⟨⟨zk, zt⟩, zs, zl⟩ := z
    dsimp only at cS
    generalize patS ⟨⟨zk, zt⟩, zs, zl⟩ = V at *
    have HS := Lib.hid cS
    clear cS g hn
    unfold BothPost at H0
    dsimp only at H0
    go_enter Tryz.func37, Tryz.ntmps37
    go_wp2_with (first | (go_at_call 93; refine H0.out.mono ?_; rintro e w1 ⟨hb1, A, c, rfl, hR1⟩) | (go_at_call 94; refine (HS.out _ _ _ (hR1.keep (balloc (Below.refl _ _) _))).mono ?_; rintro e w2 ⟨rfl, hb2⟩))
    go_ret3
    exact ⟨rfl, by (repeat (first | exact .refl _ _ | assumption | refine .drew ?_ | refine balloc ?_ _ | refine bdrewN ?_ _ | refine .setCell ?_ (by simp <;> omega) _ | refine bstep ?_ (by assumption)))⟩
set_option maxHeartbeats 4000000 in
theorem addrMeet_any (p q : ByteArray) (w : World) (hp : p.size ≤ 100000) (hq : q.size ≤ 100000) (hE : Env w) : Calls Tryz.prog 96 #[.string p, .string q] w (Ret w (meetV (bothP p q))) := by
  have c0 := both_any p q w hp hq hE
  have hg := fun z => bothP_good (z := z) hp hq
  generalize bothP p q = r at *
  clear hE
  by_cases hr : r = none ∨ r = some none
  · have H0 := Lib.hid (c0.mono fun e w' h => bothPost_bad h hr)
    clear c0 hg
    have hv : meetV r = .tuple #[.bool false, .string ⟨#[]⟩, .int .i64 (if r.isNone then 1 else 0)] := by rcases hr with rfl | rfl <;> rfl
    rw [hv]
    clear hv hr
    generalize (if r.isNone = true then (1 : Int) else 0) = er at *
    go_enter Tryz.func96, Tryz.ntmps96
    go_wp2_with (go_at_call 93; refine H0.out.mono ?_; rintro e w1 ⟨hb1, k1, t1, A1, n1, d1, b1, rfl⟩)
    go_ret3
    exact ⟨rfl, by (repeat (first | exact .refl _ _ | assumption | refine .drew ?_ | refine balloc ?_ _ | refine bdrewN ?_ _ | refine .setCell ?_ (by simp <;> omega) _ | refine bstep ?_ (by assumption)))⟩
  · obtain ⟨z, rfl⟩ : ∃ z, r = some (some z) := by
      rcases r with _ | _ | z
      · exact absurd (.inl rfl) hr
      · exact absurd (.inr rfl) hr
      · exact ⟨z, rfl⟩
    have g := hg z rfl
    have H0 := Lib.hid c0
    clear c0 hg hr
    show Calls Tryz.prog 96 #[.string p, .string q] w (Ret w (.tuple #[.bool true, .string (joinS (withP z.cust.kind z.cust.text ⟨#[97]⟩ :: wordsL z.parts)), .int .i64 0]))
    have hn := g.num
    have cW := fun W => with_any z.cust.kind z.cust.text ⟨#[97]⟩ W (by decide) (by have := g.text; omega) g.kind
    have cL := fun A c W h => words_any z.cust.kind z.cust.text A z.parts.length c z.tail z.parts W h g.parts (by omega)
    have h1 := withP_le (k := z.cust.kind) (b := ⟨#[97]⟩) g.text (Nat.le_refl _)
    have h2 := wordsL_le g.parts
    have hl : (wordsL z.parts).length = z.parts.length := by simp [wordsL]
    have cX := fun A c W h => example_any (withP z.cust.kind z.cust.text ⟨#[97]⟩) A z.parts.length c (wordsL z.parts) W h (by omega) h1 h2
    obtain ⟨⟨zk, zt⟩, zs, zl⟩ := z
    dsimp only at cW cL cX ⊢
    generalize withP zk zt ⟨#[97]⟩ = c0 at *
    generalize wordsL zs = ws at *
    generalize joinS (c0 :: ws) = V at *
    have HW := Lib.hid cW
    have HL := Lib.hid cL
    have HX := Lib.hid cX
    clear cW cL cX g hn h1 h2 hl
    unfold BothPost at H0
    dsimp only at H0
    generalize zs.length = zn at *
    go_enter Tryz.func96, Tryz.ntmps96
    go_wp2_with (go_at_call 93; refine H0.out.mono ?_; rintro e w1 ⟨hb1, A, c, rfl, hR1⟩)
    have f1 : (w1.alloc (.cells #[.int .i64 zk, .string zt, .slice A zn c, .bool zl] 122)).cell? ⟨w1.heap.size, 0, none⟩ = some (.int .i64 zk) := by simp [go_sem]
    have f2 : (w1.alloc (.cells #[.int .i64 zk, .string zt, .slice A zn c, .bool zl] 122)).cell? ⟨w1.heap.size, 1, none⟩ = some (.string zt) := by simp [go_sem]
    have f3 : (w1.alloc (.cells #[.int .i64 zk, .string zt, .slice A zn c, .bool zl] 122)).cell? ⟨w1.heap.size, 2, none⟩ = some (.slice A zn c) := by simp [go_sem]
    have f4 : (w1.alloc (.cells #[.int .i64 zk, .string zt, .slice A zn c, .bool zl] 122)).cell? ⟨w1.heap.size, 3, none⟩ = some (.bool zl) := by simp [go_sem]
    have f5 : Reads (w1.alloc (.cells #[.int .i64 zk, .string zt, .slice A zn c, .bool zl] 122)) 2 A zn (partCells zs) := hR1.keep (balloc (Below.refl _ _) _)
    have f6 : Below w.heap.size w (w1.alloc (.cells #[.int .i64 zk, .string zt, .slice A zn c, .bool zl] 122)) := by (repeat (first | exact .refl _ _ | assumption | refine .drew ?_ | refine balloc ?_ _ | refine bdrewN ?_ _ | refine .setCell ?_ (by simp <;> omega) _ | refine bstep ?_ (by assumption)))
    go_region_held3 (fun w' => w'.cell? ⟨w1.heap.size, 0, none⟩ = some (.int .i64 zk) ∧ w'.cell? ⟨w1.heap.size, 1, none⟩ = some (.string zt) ∧ w'.cell? ⟨w1.heap.size, 2, none⟩ = some (.slice A zn c) ∧ w'.cell? ⟨w1.heap.size, 3, none⟩ = some (.bool zl) ∧ Reads w' 2 A zn (partCells zs) ∧ Below w.heap.size w w')
      (first | exact ⟨f1, f2, f3, f4, f5, Below.drew f6⟩ | (go_split_ands; exact ⟨cell_keep hb2 ‹_›, cell_keep hb2 ‹_›, cell_keep hb2 ‹_›, cell_keep hb2 ‹_›, Reads.keep ‹_› hb2, bstep ‹_› hb2⟩) | (go_split_ands; exact ⟨cell_keep hb3 ‹_›, cell_keep hb3 ‹_›, cell_keep hb3 ‹_›, cell_keep hb3 ‹_›, Reads.keep ‹_› hb3, bstep ‹_› hb3⟩) | (go_split_ands; exact ⟨cell_keep hb4 ‹_›, cell_keep hb4 ‹_›, cell_keep hb4 ‹_›, cell_keep hb4 ‹_›, Reads.keep ‹_› hb4, bstep ‹_› hb4⟩))
      (first | (go_at_call 98; refine (HW.out _).mono ?_; rintro e w2 ⟨rfl, hb2⟩) | (go_at_call 99; go_split_ands; refine (HL.out _ _ _ ‹_›).mono ?_; rintro e w3 ⟨A3, c3, rfl, hown, hb3⟩) | (go_at_call 101; refine (HX.out _ _ _ (by first | exact Reads.of_own hown | exact (Reads.of_own hown).keep hb2)).mono ?_; rintro e w4 ⟨rfl, hb4⟩))
    all_goals go_wp2
    all_goals go_ret3
    all_goals exact ⟨rfl, by go_split_ands; assumption⟩
end Go.Proofs.YtocgkpdolgnbgaaGreatDoor
namespace Go.Proofs.YtocgkpdolgnbgaaGreatDoor
open Go.RowKit Go.Sort
set_option linter.unusedVariables false
set_option linter.unusedSimpArgs false
set_option maxRecDepth 100000
theorem meet_shape (p : ByteArray) : ∃ (b : Bool) (f : Int), meetV (bothP (patT p) ⟨#[42, 47, 42, 42]⟩) = .tuple #[.bool b, .string (addrOf p), .int .i64 f] := by
  unfold addrOf
  cases h : bothP (patT p) ⟨#[42, 47, 42, 42]⟩ with
  | none => exact ⟨_, _, rfl⟩
  | some r =>
    cases r with
    | none => exact ⟨_, _, rfl⟩
    | some z => exact ⟨_, _, rfl⟩
theorem head_of {α : Type} {enc : α → Value} {w : World} {A : Option Addr} {n : Nat} {xs : List α} (hA : Reads w 1 A n (xs.map enc)) (d : α) :
    (n = 0 ∧ xs.headD d = d) ∨ (0 < n ∧ ∃ b o, A = some ⟨b, o, none⟩ ∧ w.cell? ⟨b, o, none⟩ = some (enc (xs.headD d))) := by
  have hl := hA.1
  cases xs with
  | nil => exact .inl ⟨by simp at hl; omega, rfl⟩
  | cons x xs =>
    have hn : 0 < n := by simp at hl; omega
    obtain ⟨b, o, e, hc⟩ := hA.2 hn
    exact .inr ⟨hn, b, o, e, by have := hc 0 (enc x) (by simp); simpa using this⟩
theorem patT_size {p : ByteArray} (h : p.size ≤ 100000) : (patT p).size ≤ 100000 := by unfold patT; split; exact (by decide); exact h
theorem pattern_any (c : CondV) (m : CondMem) (w : World) : Calls Tryz.prog 41 #[CondMem.val c m] w (Ret w (.string (patT c.pat))) := condPattern_any _ _ _ _ _ _ _ _ _ _ _ _ _ w
theorem ABox.set1 {w : World} {g : Nat} {ad cl co cl2 : ByteArray} {si lo hi : Int} (h : ABox w g ad cl co si lo hi) : ABox (w.setCell ⟨g, 1, none⟩ (.string cl2)) g ad cl2 co si lo hi := Blk.set_ h 1 (.string cl2)
theorem ABox.set2 {w : World} {g : Nat} {ad cl co co2 : ByteArray} {si lo hi : Int} (h : ABox w g ad cl co si lo hi) : ABox (w.setCell ⟨g, 2, none⟩ (.string co2)) g ad cl co2 si lo hi := Blk.set_ h 2 (.string co2)
theorem ABox.set3 {w : World} {g : Nat} {ad cl co : ByteArray} {si si2 lo hi : Int} (h : ABox w g ad cl co si lo hi) : ABox (w.setCell ⟨g, 3, none⟩ (.int .i64 si2)) g ad cl co si2 lo hi := Blk.set_ h 3 (.int .i64 si2)
theorem ABox.put {w : World} {g : Nat} {ad cl co : ByteArray} {si lo hi : Int} (h : ABox w g ad cl co si lo hi) (ad' cl' co' : ByteArray) (si' lo' hi' : Int) : ABox ((((((w.setCell ⟨g, 0, none⟩ (.string ad')).setCell ⟨g, 1, none⟩ (.string cl')).setCell ⟨g, 2, none⟩ (.string co')).setCell ⟨g, 3, none⟩ (.int .i64 si')).setCell ⟨g, 4, none⟩ (.int .i64 lo')).setCell ⟨g, 5, none⟩ (.int .i64 hi')) g ad' cl' co' si' lo' hi' :=
  Blk.set_ (Blk.set_ (Blk.set_ (Blk.set_ (Blk.set_ (Blk.set_ h 0 (.string ad')) 1 (.string cl')) 2 (.string co')) 3 (.int .i64 si')) 4 (.int .i64 lo')) 5 (.int .i64 hi')
theorem below_put6 {a w : World} {g : Nat} (h : Below a.heap.size a w) (hg : a.heap.size ≤ g) (v0 v1 v2 v3 v4 v5 : Value) : Below a.heap.size a ((((((w.setCell ⟨g, 0, none⟩ v0).setCell ⟨g, 1, none⟩ v1).setCell ⟨g, 2, none⟩ v2).setCell ⟨g, 3, none⟩ v3).setCell ⟨g, 4, none⟩ v4).setCell ⟨g, 5, none⟩ v5) :=
  (((((h.setCell (p := ⟨g, 0, none⟩) hg _).setCell (p := ⟨g, 1, none⟩) hg _).setCell (p := ⟨g, 2, none⟩) hg _).setCell (p := ⟨g, 3, none⟩) hg _).setCell (p := ⟨g, 4, none⟩) hg _).setCell (p := ⟨g, 5, none⟩) hg _
set_option maxHeartbeats 8000000 in
theorem sample_any (c : CondV) (m : CondMem) (w : World) (hR : CondReads w c m) (hc : CondFits c) (hE : Env w) : Calls Tryz.prog 39 #[CondMem.val c m] w (Ret w (AskV.val (sampleC c))) := by
  have c1 := fun W => pattern_any c m W
  have c2 := fun W h => addrMeet_any (patT c.pat) ⟨#[42, 47, 42, 42]⟩ W (patT_size hc.p) (by decide) h
  obtain ⟨mb, mf, hms⟩ := meet_shape c.pat
  rw [hms] at c2
  unfold sampleC
  obtain ⟨fr, till, pat, cl, co, si, us⟩ := c
  obtain ⟨A, ca, B, cb, S, cs⟩ := m
  obtain ⟨hA, hB, hS⟩ := hR
  unfold CondMem.val at c1 ⊢
  unfold AskV.val
  dsimp only at hA hB hS c1 c2 ⊢
  have k1 := head_of hA ⟨#[97]⟩
  have k2 := head_of hB ⟨#[97, 97]⟩
  have k3 := head_of hS 0
  obtain ⟨n1, n2, n3⟩ := (⟨hc.n1, hc.n2, hc.n3⟩ : cl.length ≤ 1000000 ∧ co.length ≤ 1000000 ∧ si.length ≤ 1000000)
  generalize cl.headD ⟨#[97]⟩ = u1 at *
  generalize co.headD ⟨#[97, 97]⟩ = u2 at *
  generalize si.headD 0 = u3 at *
  generalize cl.length = na at *
  generalize co.length = nb at *
  generalize si.length = ns at *
  generalize addrOf pat = ad at *
  generalize patT pat = pt at *
  have C1 := Lib.hid c1; have C2 := Lib.hid c2; have HE := Lib.hid hE
  have K1 := Lib.hid k1; have K2 := Lib.hid k2; have K3 := Lib.hid k3
  clear c1 c2 hE hA hB hS hms hc k1 k2 k3
  go_enter Tryz.func39, Tryz.ntmps39
  go_upto_if 24 with (first | (go_at_call 41; refine (C1.out _).mono ?_; rintro e w2 ⟨rfl, hb2⟩) | (go_at_call 96; refine (C2.out _ (Env.keep HE.out (by (repeat (first | exact .refl _ _ | assumption | refine .drew ?_ | refine balloc ?_ _ | refine bdrewN ?_ _ | refine .setCell ?_ (by simp <;> omega) _ | refine bstep ?_ (by assumption)))))).mono ?_; rintro e w3 ⟨rfl, hb3⟩; have hX3 : CBox w3 w.heap.size fr till pat A na ca B nb cb S ns cs us := Blk.keep (Blk.keep (two_box _ _ _).1 hb2) hb3; have hY3 : ABox w3 (w.heap.size + 1) ⟨#[]⟩ ⟨#[]⟩ ⟨#[]⟩ 0 0 0 := Blk.keep (Blk.keep (two_box _ _ _).2 hb2) hb3; have hbw3 : Below w.heap.size w w3 := (by (repeat (first | exact .refl _ _ | assumption | refine .drew ?_ | refine balloc ?_ _ | refine bdrewN ?_ _ | refine .setCell ?_ (by simp <;> omega) _ | refine bstep ?_ (by assumption)))); have HX3 := Lib.hid hX3; have HY3 := Lib.hid hY3; have HBW3 := Lib.hid hbw3; obtain ⟨x0, x1, x2, x3, x4, x5, x6⟩ := hX3.facts; have hzX := Blk.lt hX3; clear hX3 hY3 hbw3))
  go_cut [] (fun wx => ABox wx w3.heap.size ad u1 ⟨#[97, 97]⟩ 0 fr fr ∧ Below w3.heap.size w3 wx)
  case first =>
    rcases K1.out with ⟨rfl, rfl⟩ | ⟨g1, b1, o1, rfl, h1⟩
    · go_wp2_with fail
      go_meet
      exact ⟨World.alloc_heap_new _ _, balloc (Below.refl _ _) _⟩
    · have j1 := Lib.cell?_alloc_some (.cells #[.string ad, .string ⟨#[97]⟩, .string ⟨#[97, 97]⟩, .int .i64 0, .int .i64 fr, .int .i64 fr] 34) (cell_keep HBW3.out h1)
      have e1 : (0 : Int) < (na : Int) := by omega
      clear h1
      go_wp2_with fail
      go_meet
      exact ⟨World.alloc_heap_new _ _, balloc (Below.refl _ _) _⟩
  case rest =>
    obtain ⟨hYc, hbc⟩ := hcut
    clear x0 x1 x2 x3 x4 x5 x6
    (have hXc : CBox wc w.heap.size fr till pat A na ca B nb cb S ns cs us := Blk.keep HX3.out hbc; obtain ⟨x0, x1, x2, x3, x4, x5, x6⟩ := hXc.facts; obtain ⟨y0, y1, y2, y3, y4, y5⟩ := hYc.facts; have f1 := Blk.free0 hYc 1; have f2 := Blk.free0 hYc 2; have f3 := Blk.free0 hYc 3; have hzc := Blk.lt hYc; have hbwc := bstep HBW3.out hbc)
    have HY1 := Lib.hid hYc; have HB1 := Lib.hid hbc
    clear hYc hXc
    obtain ⟨W1, rfl⟩ : ∃ W1 : World, W1 = wc := ⟨_, rfl⟩
    go_upto_if 33 with fail
    go_cut [] (fun wx => ABox wx w3.heap.size ad u1 u2 0 fr fr ∧ Below w3.heap.size w3 wx)
    case first =>
      rcases K2.out with ⟨rfl, rfl⟩ | ⟨g1, b1, o1, rfl, h1⟩
      · go_wp2_with fail
        go_meet
        exact ⟨HY1.out, HB1.out⟩
      · have j1 := cell_keep hbwc h1
        have e1 : (0 : Int) < (nb : Int) := by omega
        clear h1
        go_wp2_with fail
        go_meet
        exact ⟨ABox.set2 HY1.out, HB1.out.setCell (p := ⟨w3.heap.size, 2, none⟩) (Nat.le_refl _) _⟩
    case rest =>
      obtain ⟨hYc, hbc⟩ := hcut
      clear x0 x1 x2 x3 x4 x5 x6 y0 y1 y2 y3 y4 y5 f1 f2 f3 hzc hbwc
      (have hXc : CBox wc w.heap.size fr till pat A na ca B nb cb S ns cs us := Blk.keep HX3.out hbc; obtain ⟨x0, x1, x2, x3, x4, x5, x6⟩ := hXc.facts; obtain ⟨y0, y1, y2, y3, y4, y5⟩ := hYc.facts; have f1 := Blk.free0 hYc 1; have f2 := Blk.free0 hYc 2; have f3 := Blk.free0 hYc 3; have hzc := Blk.lt hYc; have hbwc := bstep HBW3.out hbc)
      have HY2 := Lib.hid hYc; have HB2 := Lib.hid hbc
      clear hYc hXc
      obtain ⟨W2, rfl⟩ : ∃ W2 : World, W2 = wc := ⟨_, rfl⟩
      go_upto_if 42 with fail
      go_cut [] (fun wx => ABox wx w3.heap.size ad u1 u2 u3 fr fr ∧ Below w3.heap.size w3 wx)
      case first =>
        rcases K3.out with ⟨rfl, rfl⟩ | ⟨g1, b1, o1, rfl, h1⟩
        · go_wp2_with fail
          go_meet
          exact ⟨HY2.out, HB2.out⟩
        · have j1 := cell_keep hbwc h1
          have e1 : (0 : Int) < (ns : Int) := by omega
          clear h1
          go_wp2_with fail
          go_meet
          exact ⟨ABox.set3 HY2.out, HB2.out.setCell (p := ⟨w3.heap.size, 3, none⟩) (Nat.le_refl _) _⟩
      case rest =>
        obtain ⟨hYc, hbc⟩ := hcut
        clear x0 x1 x2 x3 x4 x5 x6 y0 y1 y2 y3 y4 y5 f1 f2 f3 hzc hbwc
        have hRc : ABox wc (w.heap.size + 1) ⟨#[]⟩ ⟨#[]⟩ ⟨#[]⟩ 0 0 0 := Blk.keep HY3.out hbc
        obtain ⟨y0, y1, y2, y3, y4, y5⟩ := hYc.facts
        obtain ⟨r0, r1, r2, r3, r4, r5⟩ := hRc.facts
        have z0 := hRc.free0 0; have z1 := hRc.free0 1; have z2 := hRc.free0 2; have z3 := hRc.free0 3; have z4 := hRc.free0 4; have z5 := hRc.free0 5
        have hbwc := bstep HBW3.out hbc
        have HRc := Lib.hid hRc
        clear hYc hRc
        go_wp2_with fail
        obtain ⟨p0, p1, p2, p3, p4, p5⟩ := (HRc.out.put ad u1 u2 u3 fr fr).facts
        clear r0 r1 r2 r3 r4 r5 y0 y1 y2 y3 y4 y5 z0 z1 z2 z3 z4 z5
        exact bodyPost_ret (v := .agg #[.string ad, .string u1, .string u2, .int .i64 u3, .int .i64 fr, .int .i64 fr]) (by simp only [results, Tryz.results39]; simp [go_sem, p0, p1, p2, p3, p4, p5]) rfl ⟨rfl, below_put6 hbwc (Nat.le_succ _) _ _ _ _ _ _⟩
end Go.Proofs.YtocgkpdolgnbgaaGreatDoor
namespace Go.Proofs.YtocgkpdolgnbgaaGreatDoor
open Go.RowKit Go.Sort
set_option linter.unusedVariables false
set_option linter.unusedSimpArgs false
set_option maxRecDepth 100000
def emptyR (c : CondV) : Bool × AskV × Int := if validC c then (if c.till ≤ c.fr then (true, noAsk, 0) else (false, sampleC c, 0)) else (false, noAsk, 1)
def impV (r : Bool × AskV × Int) : Value := .tuple #[.bool r.1, AskV.val r.2.1, .int .i64 r.2.2]
theorem CondReads.own {w : World} {fr till us : Int} {pat : ByteArray} {cl co : List ByteArray} {si : List Int} {m : CondMem} (h : CondReads w ⟨fr, till, pat, cl, co, si, us⟩ m) : CondReads w ⟨fr, till, pat, cl, co, si, us⟩ m := h
set_option maxHeartbeats 8000000 in
theorem empty_any (c : CondV) (m : CondMem) (w : World) (hR : CondReads w c m) (hc : CondFits c) (hE : Env w) : Calls Tryz.prog 24 #[CondMem.val c m] w (Ret w (impV (emptyR c))) := by
  have c1 := fun W (hb : Below w.heap.size w W) => condValid_any c m W (hR.keep hb) hc.p hc.cl hc.co hc.n1 hc.n2 hc.n3 (hE.keep hb)
  have c2 := fun W (hb : Below w.heap.size w W) => sample_any c m W (hR.keep hb) hc (hE.keep hb)
  obtain ⟨V, hV⟩ : ∃ V, V = impV (emptyR c) := ⟨_, rfl⟩
  rw [← hV]
  unfold impV emptyR at hV
  generalize sampleC c = s at *
  generalize validC c = vd at *
  obtain ⟨ad, kl, ko, st, lo, hi⟩ := s
  clear hR
  obtain ⟨fr, till, pat, cl, co, si, us⟩ := c
  obtain ⟨A, ca, B, cb, S, cs⟩ := m
  unfold CondMem.val at c1 c2 ⊢
  unfold AskV.val at c2
  dsimp only at c1 c2 hV ⊢
  have C1 := Lib.hid c1; have C2 := Lib.hid c2
  clear c1 c2 hE hc
  cases vd
  · obtain rfl : V = .tuple #[.bool false, .agg #[.string ⟨#[]⟩, .string ⟨#[]⟩, .string ⟨#[]⟩, .int .i64 0, .int .i64 0, .int .i64 0], .int .i64 1] := by rw [hV]; rfl
    clear hV
    go_enter Tryz.func24, Tryz.ntmps24
    go_wp2_with (first | (go_at_call 19; refine (C1.out _ (by (repeat (first | exact .refl _ _ | assumption | refine .drew ?_ | refine balloc ?_ _ | refine bdrewN ?_ _ | refine .setCell ?_ (by simp <;> omega) _ | refine bstep ?_ (by assumption))))).mono ?_; rintro e w2 ⟨rfl, hb2⟩; have hbw : Below w.heap.size w w2 := (by (repeat (first | exact .refl _ _ | assumption | refine .drew ?_ | refine balloc ?_ _ | refine bdrewN ?_ _ | refine .setCell ?_ (by simp <;> omega) _ | refine bstep ?_ (by assumption)))); (have hX2 : CBox w2 w.heap.size fr till pat A cl.length ca B co.length cb S si.length cs us := (by first | exact Blk.keep hX2 hb2 | exact Blk.keep (two_box _ _ _).1 hb2); have hY2 : ABox w2 (w.heap.size + 1) ⟨#[]⟩ ⟨#[]⟩ ⟨#[]⟩ 0 0 0 := (by first | exact Blk.keep hY2 hb2 | exact Blk.keep (two_box _ _ _).2 hb2); (try clear x0 x1 x2 x3 x4 x5 x6 y0 y1 y2 y3 y4 y5 z0 z1 z2 z3 z4 z5); obtain ⟨x0, x1, x2, x3, x4, x5, x6⟩ := hX2.facts; obtain ⟨y0, y1, y2, y3, y4, y5⟩ := hY2.facts; have z0 := hY2.free0 0; have z1 := hY2.free0 1; have z2 := hY2.free0 2; have z3 := hY2.free0 3; have z4 := hY2.free0 4; have z5 := hY2.free0 5)) | (go_at_call 39; refine (C2.out _ hbw).mono ?_; rintro e w2 ⟨rfl, hb2⟩; replace hbw := bstep hbw hb2; (have hX2 : CBox w2 w.heap.size fr till pat A cl.length ca B co.length cb S si.length cs us := (by first | exact Blk.keep hX2 hb2 | exact Blk.keep (two_box _ _ _).1 hb2); have hY2 : ABox w2 (w.heap.size + 1) ⟨#[]⟩ ⟨#[]⟩ ⟨#[]⟩ 0 0 0 := (by first | exact Blk.keep hY2 hb2 | exact Blk.keep (two_box _ _ _).2 hb2); (try clear x0 x1 x2 x3 x4 x5 x6 y0 y1 y2 y3 y4 y5 z0 z1 z2 z3 z4 z5); obtain ⟨x0, x1, x2, x3, x4, x5, x6⟩ := hX2.facts; obtain ⟨y0, y1, y2, y3, y4, y5⟩ := hY2.facts; have z0 := hY2.free0 0; have z1 := hY2.free0 1; have z2 := hY2.free0 2; have z3 := hY2.free0 3; have z4 := hY2.free0 4; have z5 := hY2.free0 5)))
    (obtain ⟨p0, p1, p2, p3, p4, p5⟩ := (hY2.put ⟨#[]⟩ ⟨#[]⟩ ⟨#[]⟩ 0 0 0).facts; clear x0 x1 x2 x3 x4 x5 x6 y0 y1 y2 y3 y4 y5 z0 z1 z2 z3 z4 z5)
    exact bodyPost_ret (v := .tuple #[.bool false, .agg #[.string ⟨#[]⟩, .string ⟨#[]⟩, .string ⟨#[]⟩, .int .i64 0, .int .i64 0, .int .i64 0], .int .i64 1]) (by simp only [results, Tryz.results24]; simp [go_sem, p0, p1, p2, p3, p4, p5]) rfl ⟨rfl, below_put6 hbw (Nat.le_succ _) _ _ _ _ _ _⟩
  by_cases ht : till ≤ fr
  · obtain rfl : V = .tuple #[.bool true, .agg #[.string ⟨#[]⟩, .string ⟨#[]⟩, .string ⟨#[]⟩, .int .i64 0, .int .i64 0, .int .i64 0], .int .i64 0] := by rw [hV]; simp only [ht, if_true]; rfl
    have d1 : decide (till ≤ fr) = true := decide_eq_true ht
    clear hV
    go_enter Tryz.func24, Tryz.ntmps24
    go_wp2_with (first | (go_at_call 19; refine (C1.out _ (by (repeat (first | exact .refl _ _ | assumption | refine .drew ?_ | refine balloc ?_ _ | refine bdrewN ?_ _ | refine .setCell ?_ (by simp <;> omega) _ | refine bstep ?_ (by assumption))))).mono ?_; rintro e w2 ⟨rfl, hb2⟩; have hbw : Below w.heap.size w w2 := (by (repeat (first | exact .refl _ _ | assumption | refine .drew ?_ | refine balloc ?_ _ | refine bdrewN ?_ _ | refine .setCell ?_ (by simp <;> omega) _ | refine bstep ?_ (by assumption)))); (have hX2 : CBox w2 w.heap.size fr till pat A cl.length ca B co.length cb S si.length cs us := (by first | exact Blk.keep hX2 hb2 | exact Blk.keep (two_box _ _ _).1 hb2); have hY2 : ABox w2 (w.heap.size + 1) ⟨#[]⟩ ⟨#[]⟩ ⟨#[]⟩ 0 0 0 := (by first | exact Blk.keep hY2 hb2 | exact Blk.keep (two_box _ _ _).2 hb2); (try clear x0 x1 x2 x3 x4 x5 x6 y0 y1 y2 y3 y4 y5 z0 z1 z2 z3 z4 z5); obtain ⟨x0, x1, x2, x3, x4, x5, x6⟩ := hX2.facts; obtain ⟨y0, y1, y2, y3, y4, y5⟩ := hY2.facts; have z0 := hY2.free0 0; have z1 := hY2.free0 1; have z2 := hY2.free0 2; have z3 := hY2.free0 3; have z4 := hY2.free0 4; have z5 := hY2.free0 5)) | (go_at_call 39; refine (C2.out _ hbw).mono ?_; rintro e w2 ⟨rfl, hb2⟩; replace hbw := bstep hbw hb2; (have hX2 : CBox w2 w.heap.size fr till pat A cl.length ca B co.length cb S si.length cs us := (by first | exact Blk.keep hX2 hb2 | exact Blk.keep (two_box _ _ _).1 hb2); have hY2 : ABox w2 (w.heap.size + 1) ⟨#[]⟩ ⟨#[]⟩ ⟨#[]⟩ 0 0 0 := (by first | exact Blk.keep hY2 hb2 | exact Blk.keep (two_box _ _ _).2 hb2); (try clear x0 x1 x2 x3 x4 x5 x6 y0 y1 y2 y3 y4 y5 z0 z1 z2 z3 z4 z5); obtain ⟨x0, x1, x2, x3, x4, x5, x6⟩ := hX2.facts; obtain ⟨y0, y1, y2, y3, y4, y5⟩ := hY2.facts; have z0 := hY2.free0 0; have z1 := hY2.free0 1; have z2 := hY2.free0 2; have z3 := hY2.free0 3; have z4 := hY2.free0 4; have z5 := hY2.free0 5)))
    (obtain ⟨p0, p1, p2, p3, p4, p5⟩ := (hY2.put ⟨#[]⟩ ⟨#[]⟩ ⟨#[]⟩ 0 0 0).facts; clear x0 x1 x2 x3 x4 x5 x6 y0 y1 y2 y3 y4 y5 z0 z1 z2 z3 z4 z5)
    exact bodyPost_ret (v := .tuple #[.bool true, .agg #[.string ⟨#[]⟩, .string ⟨#[]⟩, .string ⟨#[]⟩, .int .i64 0, .int .i64 0, .int .i64 0], .int .i64 0]) (by simp only [results, Tryz.results24]; simp [go_sem, p0, p1, p2, p3, p4, p5]) rfl ⟨rfl, below_put6 hbw (Nat.le_succ _) _ _ _ _ _ _⟩
  · obtain rfl : V = .tuple #[.bool false, .agg #[.string ad, .string kl, .string ko, .int .i64 st, .int .i64 lo, .int .i64 hi], .int .i64 0] := by rw [hV]; simp only [ht, if_true, if_false]; rfl
    have d1 : decide (till ≤ fr) = false := decide_eq_false ht
    clear hV
    go_enter Tryz.func24, Tryz.ntmps24
    go_wp2_with (first | (go_at_call 19; refine (C1.out _ (by (repeat (first | exact .refl _ _ | assumption | refine .drew ?_ | refine balloc ?_ _ | refine bdrewN ?_ _ | refine .setCell ?_ (by simp <;> omega) _ | refine bstep ?_ (by assumption))))).mono ?_; rintro e w2 ⟨rfl, hb2⟩; have hbw : Below w.heap.size w w2 := (by (repeat (first | exact .refl _ _ | assumption | refine .drew ?_ | refine balloc ?_ _ | refine bdrewN ?_ _ | refine .setCell ?_ (by simp <;> omega) _ | refine bstep ?_ (by assumption)))); (have hX2 : CBox w2 w.heap.size fr till pat A cl.length ca B co.length cb S si.length cs us := (by first | exact Blk.keep hX2 hb2 | exact Blk.keep (two_box _ _ _).1 hb2); have hY2 : ABox w2 (w.heap.size + 1) ⟨#[]⟩ ⟨#[]⟩ ⟨#[]⟩ 0 0 0 := (by first | exact Blk.keep hY2 hb2 | exact Blk.keep (two_box _ _ _).2 hb2); (try clear x0 x1 x2 x3 x4 x5 x6 y0 y1 y2 y3 y4 y5 z0 z1 z2 z3 z4 z5); obtain ⟨x0, x1, x2, x3, x4, x5, x6⟩ := hX2.facts; obtain ⟨y0, y1, y2, y3, y4, y5⟩ := hY2.facts; have z0 := hY2.free0 0; have z1 := hY2.free0 1; have z2 := hY2.free0 2; have z3 := hY2.free0 3; have z4 := hY2.free0 4; have z5 := hY2.free0 5)) | (go_at_call 39; refine (C2.out _ hbw).mono ?_; rintro e w2 ⟨rfl, hb2⟩; replace hbw := bstep hbw hb2; (have hX2 : CBox w2 w.heap.size fr till pat A cl.length ca B co.length cb S si.length cs us := (by first | exact Blk.keep hX2 hb2 | exact Blk.keep (two_box _ _ _).1 hb2); have hY2 : ABox w2 (w.heap.size + 1) ⟨#[]⟩ ⟨#[]⟩ ⟨#[]⟩ 0 0 0 := (by first | exact Blk.keep hY2 hb2 | exact Blk.keep (two_box _ _ _).2 hb2); (try clear x0 x1 x2 x3 x4 x5 x6 y0 y1 y2 y3 y4 y5 z0 z1 z2 z3 z4 z5); obtain ⟨x0, x1, x2, x3, x4, x5, x6⟩ := hX2.facts; obtain ⟨y0, y1, y2, y3, y4, y5⟩ := hY2.facts; have z0 := hY2.free0 0; have z1 := hY2.free0 1; have z2 := hY2.free0 2; have z3 := hY2.free0 3; have z4 := hY2.free0 4; have z5 := hY2.free0 5)))
    obtain ⟨p0, p1, p2, p3, p4, p5⟩ := (hY2.put ad kl ko st lo hi).facts
    clear x0 x1 x2 x3 x4 x5 x6 y0 y1 y2 y3 y4 y5 z0 z1 z2 z3 z4 z5
    exact bodyPost_ret (v := .tuple #[.bool false, .agg #[.string ad, .string kl, .string ko, .int .i64 st, .int .i64 lo, .int .i64 hi], .int .i64 0]) (by simp only [results, Tryz.results24]; simp [go_sem, p0, p1, p2, p3, p4, p5]) rfl ⟨rfl, below_put6 hbw (Nat.le_succ _) _ _ _ _ _ _⟩
end Go.Proofs.YtocgkpdolgnbgaaGreatDoor
namespace Go.Proofs.YtocgkpdolgnbgaaGreatDoor
open Go.RowKit Go.Sort
set_option linter.unusedVariables false
set_option linter.unusedSimpArgs false
set_option maxRecDepth 100000
attribute [local go_sem] Oper.semAt_some
theorem reads_keepIn {W W' : World} {A : Option Addr} {n h : Nat} {vs : List Value} (hR : Reads W 1 A n vs) (hk : KeepsIn 0 h W W') (hb : 0 < n → ∀ a, A = some a → a.block < h) : Reads W' 1 A n vs := by
  refine ⟨hR.1, fun hn => ?_⟩
  obtain ⟨b, o, rfl, hc⟩ := hR.2 hn
  exact ⟨b, o, rfl, fun j u hu => (World.cell?_of_block (hk _ (by simp) (by have := hb hn _ rfl; simpa using this))).trans (hc j u hu)⟩
theorem reads_lt {w : World} {A : Option Addr} {n : Nat} {vs : List Value} (hR : Reads w 1 A n vs) : 0 < n → ∀ a, A = some a → a.block < w.heap.size := by
  intro hn a ha
  obtain ⟨b, o, e, hc⟩ := hR.2 hn
  rw [e] at ha
  injection ha with ha
  subst ha
  have hl : 0 < vs.length := by have := hR.1; omega
  have := cell_lt (hc 0 _ (List.getElem?_eq_getElem hl))
  exact this
set_option maxHeartbeats 4000000 in
theorem valuesS_iter (b : Nat) (A : Option Addr) (n c : Nat) (xs : List ByteArray) (w : World) (h0 : w.cell? ⟨b, 0, none⟩ = some (.slice A n c)) (hA : Reads w 1 A n (xs.map .string)) (hn : n ≤ 1000000000) :
    Iter Tryz.prog 110 #[.pointer (some ⟨b, 0, none⟩)] (xs.map .string) (fun _ _ => False) 0 w.heap.size w := by
  intro l J Jx W hW _ _ hY hJ0
  have g0 := cell_keep hW h0
  have hlt := reads_lt hA
  have hR := hA.keep hW
  have hl : xs.length = n := by have := hA.1; simp at this; omega
  generalize w.heap.size = h at *
  clear h0 hA hW w
  refine callsIn_of_wp Tryz.func110 rfl trivial ?_ rfl
  simp only [Tryz.ntmps110, List.size_toArray, List.length_cons, List.length_nil, Nat.reduceAdd, Nat.reduceSub, Array.replicate_succ, Array.replicate_zero, List.push_toArray, List.append_toArray, List.nil_append, List.cons_append]
  have HY := Lib.hid hY
  have HLT := Lib.hid hlt
  have HR0 := Lib.hid hR
  have HL := Lib.hid hl
  clear hY hlt hR hl
  gi_wp2
  gi_loopw [7] (fun i wr => ∃ k : Nat, i = .int .i64 k ∧ k ≤ n ∧ Hid (Reads wr 1 A n (xs.map .string)) ∧ J k wr) (fun i _ => n - (intOf i).toNat)
  case atStart => exact ⟨0, rfl, by omega, HR0, hJ0⟩
  case round =>
    clear g0 hJ0 HR0
    obtain ⟨k, rfl, hk, HR, hJ⟩ := hrel
    by_cases hkn : k < n
    · obtain ⟨x, hx⟩ : ∃ x, xs[k]? = some x := ⟨_, List.getElem?_eq_getElem (by have := HL.out; omega)⟩
      have hxv : (xs.map Value.string)[k]? = some (.string x) := by simp [hx]
      obtain ⟨fn, tmps, assign, body, hy, hRd⟩ := HY.out k _ wr hxv hJ
      obtain ⟨pb, po, rfl, hcell⟩ := HR.out.2 (by omega)
      have hc1 : wr.cell? ⟨pb, po + k, none⟩ = some (.string x) := hcell k _ hxv
      have hk0 : (0 : Int) ≤ (k : Int) := by omega
      have hk1 : (k : Int) < (n : Int) := by omega
      clear hcell hx hxv
      gi_wp2
      refine ⟨rfl, hRd.mono ?_⟩
      rintro e W' (⟨rfl, hJ', hk'⟩ | ⟨rfl, hJx'⟩)
      · have HR2 := Lib.hid (reads_keepIn HR.out hk' HLT.out)
        clear hc1 HR
        gi_wp2
        exact ⟨⟨k + 1, by go_num, by omega, HR2, hJ'⟩, by simp [intOf]; omega⟩
      · gi_wp2
        refine bodyPost_ret (results_none rfl _ _ _) rfl ?_
        exact ⟨⟨_, rfl⟩, .inr hJx'⟩
    · obtain rfl : k = n := by omega
      have hlen : k = (xs.map Value.string).length := by have := HL.out; simp; omega
      have HLN := Lib.hid hlen
      clear hlen
      gi_wp2
      go_end0
      exact ⟨⟨_, rfl⟩, .inl (by rw [← HLN.out]; exact hJ)⟩
end Go.Proofs.YtocgkpdolgnbgaaGreatDoor
namespace Go.Proofs.YtocgkpdolgnbgaaGreatDoor
open Go.RowKit Go.Sort
set_option linter.unusedVariables false
set_option linter.unusedSimpArgs false
set_option maxRecDepth 100000
attribute [local go_sem] Oper.semAt_some
def outV (r : Option ByteArray) : Value := match r with
  | some x => .tuple #[.string x, .bool true]
  | none => .tuple #[.string ⟨#[]⟩, .bool false]
def OutI (ys all : List ByteArray) (B : Option Addr) (nb cb : Nat) (w : World) (hs : Nat) (k : Nat) (W : World) : Prop :=
  (all.find? (fun x => !allowsL ys x) = (all.drop k).find? (fun x => !allowsL ys x)) ∧ Boxed W w.heap.size 22 (.slice B nb cb) ∧ Boxed W (w.heap.size + 1) 9 (.string ⟨#[]⟩) ∧ Boxed W (w.heap.size + 1 + 1) 4 (.bool false) ∧ Below w.heap.size w W ∧ hs ≤ W.heap.size
def OutX (ys all : List ByteArray) (w : World) (hs : Nat) (c : Code) (W : World) : Prop :=
  c = .ret ∧ ∃ x, all.find? (fun x => !allowsL ys x) = some x ∧ Boxed W (w.heap.size + 1) 9 (.string x) ∧ Boxed W (w.heap.size + 1 + 1) 4 (.bool true) ∧ Below w.heap.size w W ∧ hs ≤ W.heap.size
theorem outI_own (ys all : List ByteArray) (Bb : Option Addr) (nb cb : Nat) (w : World) (hs B : Nat) (hB : w.heap.size ≤ B) : OwnFrom B (OutI ys all Bb nb cb w hs) := by
  rintro k W W' row ⟨h1, h2, h3, h4, h5, h6⟩ hg hr
  have hr' := fun r e => (hr r e).2
  exact ⟨h1, boxed_own w.heap.size 22 (fun _ : Unit => .slice Bb nb cb) () W W' row h2 hg hr', boxed_own (w.heap.size + 1) 9 (fun _ : Unit => .string ⟨#[]⟩) () W W' row h3 hg hr', boxed_own (w.heap.size + 1 + 1) 4 (fun _ : Unit => .bool false) () W W' row h4 hg hr', h5.grown hg h5.size (fun r e => by have := (hr r e).1; omega), Nat.le_trans h6 hg.size⟩
theorem outX_own (ys all : List ByteArray) (w : World) (hs B : Nat) (hB : w.heap.size ≤ B) (c : Code) : OwnFrom B (fun (_ : Unit) => OutX ys all w hs c) := by
  rintro _ W W' row ⟨h0, x, h1, h2, h3, h4, h5⟩ hg hr
  have hr' := fun r e => (hr r e).2
  exact ⟨h0, x, h1, boxed_own (w.heap.size + 1) 9 (fun _ : Unit => .string x) () W W' row h2 hg hr', boxed_own (w.heap.size + 1 + 1) 4 (fun _ : Unit => .bool true) () W W' row h3 hg hr', h4.grown hg h4.size (fun r e => by have := (hr r e).1; omega), Nat.le_trans h5 hg.size⟩
theorem find_step {α : Type} {p : α → Bool} {l : List α} {k : Nat} {x : α} (hx : l[k]? = some x) : (l.drop k).find? p = if p x then some x else (l.drop (k + 1)).find? p := by
  have hd : l.drop k = x :: l.drop (k + 1) := by
    obtain ⟨hl2, rfl⟩ := List.getElem?_eq_some_iff.1 hx
    exact List.drop_eq_getElem_cons hl2
  rw [hd, List.find?_cons]
  cases p x <;> rfl
set_option maxHeartbeats 4000000 in
theorem outsideS_none (A : Option Addr) (ca : Nat) (B : Option Addr) (nb cb : Nat) (ys all : List ByteArray) (gf : Nat) (w : World) (eg : ∀ args w, (callFunc gf args).run Tryz.prog w = .ok (.enter gf args) w)
    (hseq : ∀ h W, Iter Tryz.prog gf #[] (all.map .string) (fun _ _ => False) 0 h W) (hB : Reads w 1 B nb (ys.map .string)) (hnb : nb ≤ 1000000000) :
    Calls Tryz.prog 42 #[.slice A 0 ca, .slice B nb cb, .func (.func gf) #[] #[]] w (Ret w (outV (all.find? fun x => !allowsL ys x))) := by
  obtain ⟨V, hV⟩ : ∃ V, V = outV (all.find? fun x => !allowsL ys x) := ⟨_, rfl⟩
  rw [← hV]
  have HV := Lib.hid hV
  have HB := Lib.hid hB
  obtain ⟨hs, hhs⟩ : ∃ hs, hs = w.heap.size + 1 + 1 + 1 := ⟨_, rfl⟩
  have hq0 := hseq hs (((w.alloc (.cells #[.slice B nb cb] 22)).alloc (.cells #[.string ⟨#[]⟩] 9)).alloc (.cells #[.bool false] 4))
  have hbw0 : Below w.heap.size w (((w.alloc (.cells #[.slice B nb cb] 22)).alloc (.cells #[.string ⟨#[]⟩] 9)).alloc (.cells #[.bool false] 4)) := balloc (balloc (balloc (Below.refl _ _) _) _) _
  have b1 := Boxed.new w 22 (.slice B nb cb)
  have b2 := Boxed.new (w.alloc (.cells #[.slice B nb cb] 22)) 9 (.string ⟨#[]⟩)
  have b3' := Boxed.new ((w.alloc (.cells #[.slice B nb cb] 22)).alloc (.cells #[.string ⟨#[]⟩] 9)) 4 (.bool false)
  simp only [World.size_alloc] at b2 b3'
  have b1' := (b1.alloc (.cells #[.string ⟨#[]⟩] 9)).alloc (.cells #[.bool false] 4)
  have b2' := b2.alloc (.cells #[.bool false] 4)
  have hKI : hs ≤ (((w.alloc (.cells #[.slice B nb cb] 22)).alloc (.cells #[.string ⟨#[]⟩] 9)).alloc (.cells #[.bool false] 4)).heap.size := by simp; omega
  have hhs2 : w.heap.size + 1 + 1 + 1 ≤ hs := by omega
  clear hV hB hseq hhs b1 b2
  refine (callsIn_wide (n := 0)).1 ?_; refine callsIn_of_wp_marks Tryz.func42 rfl trivial ?_ rfl; simp only [Tryz.ntmps42, List.size_toArray, List.length_cons, List.length_nil, Nat.reduceAdd, Nat.reduceSub, Array.replicate_succ, Array.replicate_zero, List.push_toArray, List.append_toArray, List.nil_append, List.cons_append]
  gi_wp2
  refine range_law (gf := gf) (lb := _) rfl eg hq0 (Below.refl _ _) hKI (OutI ys all B nb cb w hs) (OutX ys all w hs) (outI_own ys all B nb cb w hs _ (by simp; omega)) (fun c => outX_own ys all w hs _ (by simp; omega) c) ⟨by simp, b1', b2', b3', hbw0, hKI⟩ (fun _ _ _ _ h => h.elim) (fun _ _ h => h.elim) ?a1 ?assign ?body ?done ?stop
  case assign =>
    intro l x W K _ hK
    gi_wp2
    exact hK
  case body =>
    rintro l k x W hx ⟨hr1, h2, h3, h4, hbw, hsz6⟩
    obtain ⟨p, hp, rfl⟩ := strs_at hx
    rw [find_step hp] at hr1
    have cA := allowsS_any B nb cb ys p W (HB.out.keep hbw) (by omega)
    have c2 := h2.cell
    have c3 := h3.cell; have f3 := h3.frozen
    have c4 := h4.cell; have f4 := h4.frozen
    clear hx hp
    cases ha : allowsL ys p
    · rw [ha] at cA hr1
      have HA := Lib.hid cA
      have HR := Lib.hid hr1
      clear cA hr1 ha
      gi_wp2_with (refine ⟨trivial, rfl, ?_⟩; gi_at_call 82; refine (CallsIn.inRound l (callsIn_wide.2 HA.out)).mono ?_; rintro e w2 ⟨rfl, hb2⟩; have c3' := cell_keep hb2 c3; have f3' := frozen_keep hb2 (cell_lt c3) f3; have c4' := cell_keep hb2 c4; have f4' := frozen_keep hb2 (cell_lt c4) f4)
      have g3 := boxed_keep h3 hb2
      have g4 := boxed_keep h4 hb2
      refine ⟨(((keepsOthers_of_below hb2).trans (KeepsOthers.setCell _ _ _)).trans (KeepsOthers.setCell _ _ _)).from _, rfl, p, by rw [HR.out]; simp, boxed_far (g3.set _) (by simp) _, (boxed_far g4 (by simp) _).set _, ?_, ?_⟩
      · exact ((hbw.trans (hb2.mono (by omega))).setCell (p := ⟨w.heap.size + 1, 0, none⟩) (by simp) _).setCell (p := ⟨w.heap.size + 1 + 1, 0, none⟩) (by simp; omega) _
      · have := hb2.size; simp [World.setCell]; omega
    · rw [ha] at cA hr1
      have HA := Lib.hid cA
      have HR := Lib.hid hr1
      clear cA hr1 ha
      gi_wp2_with (refine ⟨trivial, rfl, ?_⟩; gi_at_call 82; refine (CallsIn.inRound l (callsIn_wide.2 HA.out)).mono ?_; rintro e w2 ⟨rfl, hb2⟩; have c3' := cell_keep hb2 c3; have f3' := frozen_keep hb2 (cell_lt c3) f3; have c4' := cell_keep hb2 c4; have f4' := frozen_keep hb2 (cell_lt c4) f4)
      exact ⟨(keepsOthers_of_below hb2).from _, Below.keepsIn hb2 (by omega), by rw [HR.out]; simp, boxed_keep h2 hb2, boxed_keep h3 hb2, boxed_keep h4 hb2, hbw.trans (hb2.mono (by omega)), by have := hb2.size; omega⟩
  case done =>
    rintro D W hD ⟨hr1, h2, h3, h4, hbw, hsz6⟩ hK
    rw [List.length_map, List.drop_eq_nil_of_le (Nat.le_refl _), List.find?_nil] at hr1
    have c3 := h3.cell; have f3 := h3.frozen
    have c4 := h4.cell; have f4 := h4.frozen
    have HR := Lib.hid hr1
    clear hr1
    gi_wp2
    have hk2 := ((KeepsOthers.setCell W ⟨w.heap.size + 1, 0, none⟩ (.string ⟨#[]⟩)).trans (KeepsOthers.setCell _ ⟨w.heap.size + 1 + 1, 0, none⟩ (.bool false))).same D _ hK rfl
    have hD' : w.heap.size + 1 + 1 + 1 ≤ D := by simp only [World.size_alloc] at hD; omega
    obtain ⟨W2, hW2⟩ : ∃ W2, W2 = (W.setCell ⟨w.heap.size + 1, 0, none⟩ (.string ⟨#[]⟩)).setCell ⟨w.heap.size + 1 + 1, 0, none⟩ (.bool false) := ⟨_, rfl⟩
    have x3 : Boxed W2 (w.heap.size + 1) 9 (.string ⟨#[]⟩) := hW2 ▸ boxed_far (h3.set _) (by simp) _
    have x4 : Boxed W2 (w.heap.size + 1 + 1) 4 (.bool false) := hW2 ▸ (boxed_far h4 (by simp) _).set _
    have hb2 : Below w.heap.size w W2 := hW2 ▸ (hbw.setCell (p := ⟨w.heap.size + 1, 0, none⟩) (by simp) _).setCell (p := ⟨w.heap.size + 1 + 1, 0, none⟩) (by simp; omega) _
    rw [← hW2] at hk2 ⊢
    clear hW2 h2 h3 h4 hbw c3 c4 f3 f4
    refine ⟨by simp, .inl ⟨_, _, rfl, run_takeDeferred hk2, ?_⟩⟩
    have hne : ∀ (B : Nat) (t : TypeId) (v : Value), Boxed W2 B t v → B < D → (W2.putObj D (.deferred none)).cell? ⟨B, 0, none⟩ = some v := fun B t v hv hlt => Boxed.cell (t := t) ((World.putObj_heap_other (by omega)).trans hv)
    have y3 := hne _ _ _ x3 (by omega)
    have y4 := hne _ _ _ x4 (by omega)
    refine ⟨.tuple #[.string ⟨#[]⟩, .bool false], by simp [results, Tryz.results42, go_sem, y3, y4], ?_, ?_⟩
    · rw [HV.out, HR.out]; rfl
    · exact hb2.grown (grownBy_putObj' W2 D _) (by have := hb2.size; omega) (fun r e => by cases e; omega)
  case stop =>
    rintro D c W hD ⟨rfl, x, hr1, h3, h4, hbw, hsz6⟩ hK
    have hD' : w.heap.size + 1 + 1 + 1 ≤ D := by simp only [World.size_alloc] at hD; omega
    have HR := Lib.hid hr1
    clear hr1
    gi_wp2
    refine ⟨by simp, .inl ⟨_, _, rfl, run_takeDeferred hK, ?_⟩⟩
    have hne : ∀ (B : Nat) (t : TypeId) (v : Value), Boxed W B t v → B < D → (W.putObj D (.deferred none)).cell? ⟨B, 0, none⟩ = some v := fun B t v hv hlt => Boxed.cell (t := t) ((World.putObj_heap_other (by omega)).trans hv)
    have y3 := hne _ _ _ h3 (by omega)
    have y4 := hne _ _ _ h4 (by omega)
    refine ⟨.tuple #[.string x, .bool true], by simp [results, Tryz.results42, go_sem, y3, y4], ?_, ?_⟩
    · rw [HV.out, HR.out]; rfl
    · exact hbw.grown (grownBy_putObj' W D _) (by have := hbw.size; omega) (fun r e => by cases e; omega)
theorem valuesS_any (A : Option Addr) (n c : Nat) (w : World) : Calls Tryz.prog 64 #[.slice A n c] w fun e w' => e = .returned (.func (.func 110) #[] #[.pointer (some ⟨w.heap.size, 0, none⟩)]) ∧ w' = w.alloc (.cells #[.slice A n c] 22) := by
  go_enter Tryz.func64, Tryz.ntmps64
  go_wp2
  go_ret
  exact ⟨rfl, rfl⟩
set_option maxHeartbeats 4000000 in
theorem outsideS_some (A : Option Addr) (na ca : Nat) (B : Option Addr) (nb cb : Nat) (ys all : List ByteArray) (fv : Value) (w : World)
    (hA : Reads w 1 A na (all.map .string)) (hB : Reads w 1 B nb (ys.map .string)) (hna0 : 0 < na) (hna : na ≤ 1000000000) (hnb : nb ≤ 1000000000) :
    Calls Tryz.prog 42 #[.slice A na ca, .slice B nb cb, fv] w (Ret w (outV (all.find? fun x => !allowsL ys x))) := by
  obtain ⟨V, hV⟩ : ∃ V, V = outV (all.find? fun x => !allowsL ys x) := ⟨_, rfl⟩
  rw [← hV]
  have HV := Lib.hid hV
  have HB := Lib.hid hB
  obtain ⟨hs, hhs⟩ : ∃ hs, hs = w.heap.size + 1 + 1 + 1 + 1 := ⟨_, rfl⟩
  have hbw0 : Below w.heap.size w ((((w.alloc (.cells #[.slice B nb cb] 22)).alloc (.cells #[.string ⟨#[]⟩] 9)).alloc (.cells #[.bool false] 4)).alloc (.cells #[.slice A na ca] 22)) := balloc (balloc (balloc (balloc (Below.refl _ _) _) _) _) _
  obtain ⟨lb, hlb⟩ : ∃ lb : Array Value, lb = #[.pointer (some ⟨w.heap.size + 1 + 1 + 1, 0, none⟩)] := ⟨_, rfl⟩
  obtain ⟨gf, hgf⟩ : ∃ gf : Nat, gf = 110 := ⟨_, rfl⟩
  have eg : ∀ args w, (callFunc gf args).run Tryz.prog w = .ok (.enter gf args) w := by rw [hgf]; exact enters_of Tryz.func110 (by kernel_rfl) rfl
  have b1 := Boxed.new w 22 (.slice B nb cb)
  have b2 := Boxed.new (w.alloc (.cells #[.slice B nb cb] 22)) 9 (.string ⟨#[]⟩)
  have b3 := Boxed.new ((w.alloc (.cells #[.slice B nb cb] 22)).alloc (.cells #[.string ⟨#[]⟩] 9)) 4 (.bool false)
  have b4 := Boxed.new (((w.alloc (.cells #[.slice B nb cb] 22)).alloc (.cells #[.string ⟨#[]⟩] 9)).alloc (.cells #[.bool false] 4)) 22 (.slice A na ca)
  simp only [World.size_alloc] at b2 b3 b4
  have hq0 := valuesS_iter (w.heap.size + 1 + 1 + 1) A na ca all _ b4.cell (hA.keep hbw0) hna
  rw [← hlb, ← hgf] at hq0
  have hv := fun W => valuesS_any A na ca W
  rw [← hgf] at hv
  have HVA := Lib.hid hv
  have HLB := Lib.hid hlb
  have b1' := ((b1.alloc (.cells #[.string ⟨#[]⟩] 9)).alloc (.cells #[.bool false] 4)).alloc (.cells #[.slice A na ca] 22)
  have b2' := (b2.alloc (.cells #[.bool false] 4)).alloc (.cells #[.slice A na ca] 22)
  have b3' := b3.alloc (.cells #[.slice A na ca] 22)
  simp only [World.size_alloc] at hq0
  rw [← hhs] at hq0
  have hKI : hs ≤ ((((w.alloc (.cells #[.slice B nb cb] 22)).alloc (.cells #[.string ⟨#[]⟩] 9)).alloc (.cells #[.bool false] 4)).alloc (.cells #[.slice A na ca] 22)).heap.size := by simp; omega
  have hhs2 : w.heap.size + 1 + 1 + 1 ≤ hs := by omega
  have e0 : (0 : Int) < (na : Int) := by omega
  clear hV hB hA hhs b1 b2 b3 b4 hv hgf
  refine (callsIn_wide (n := 0)).1 ?_; refine callsIn_of_wp_marks Tryz.func42 rfl trivial ?_ rfl; simp only [Tryz.ntmps42, List.size_toArray, List.length_cons, List.length_nil, Nat.reduceAdd, Nat.reduceSub, Array.replicate_succ, Array.replicate_zero, List.push_toArray, List.append_toArray, List.nil_append, List.cons_append]
  gi_wp2_with (refine ⟨trivial, rfl, ?_⟩; gi_at_call 64; refine (callsIn_wide.2 (HVA.out _)).mono ?_; rintro e w' ⟨rfl, hw'⟩; rw [hw']; simp only [World.size_alloc]; rw [← HLB.out])
  refine range_law (gf := gf) (lb := _) rfl eg hq0 (Below.refl _ _) hKI (OutI ys all B nb cb w hs) (OutX ys all w hs) (outI_own ys all B nb cb w hs _ (by simp; omega)) (fun c => outX_own ys all w hs _ (by simp; omega) c) ⟨by simp, b1', b2', b3', hbw0, hKI⟩ (fun _ _ _ _ h => h.elim) (fun _ _ h => h.elim) ?a1 ?assign ?body ?done ?stop
  case assign =>
    intro l x W K _ hK
    gi_wp2
    exact hK
  case body =>
    rintro l k x W hx ⟨hr1, h2, h3, h4, hbw, hsz6⟩
    obtain ⟨p, hp, rfl⟩ := strs_at hx
    rw [find_step hp] at hr1
    have cA := allowsS_any B nb cb ys p W (HB.out.keep hbw) (by omega)
    have c2 := h2.cell
    have c3 := h3.cell; have f3 := h3.frozen
    have c4 := h4.cell; have f4 := h4.frozen
    clear hx hp
    cases ha : allowsL ys p
    · rw [ha] at cA hr1
      have HA := Lib.hid cA
      have HR := Lib.hid hr1
      clear cA hr1 ha
      gi_wp2_with (refine ⟨trivial, rfl, ?_⟩; gi_at_call 82; refine (CallsIn.inRound l (callsIn_wide.2 HA.out)).mono ?_; rintro e w2 ⟨rfl, hb2⟩; have c3' := cell_keep hb2 c3; have f3' := frozen_keep hb2 (cell_lt c3) f3; have c4' := cell_keep hb2 c4; have f4' := frozen_keep hb2 (cell_lt c4) f4)
      have g3 := boxed_keep h3 hb2
      have g4 := boxed_keep h4 hb2
      refine ⟨(((keepsOthers_of_below hb2).trans (KeepsOthers.setCell _ _ _)).trans (KeepsOthers.setCell _ _ _)).from _, rfl, p, by rw [HR.out]; simp, boxed_far (g3.set _) (by simp) _, (boxed_far g4 (by simp) _).set _, ?_, ?_⟩
      · exact ((hbw.trans (hb2.mono (by omega))).setCell (p := ⟨w.heap.size + 1, 0, none⟩) (by simp) _).setCell (p := ⟨w.heap.size + 1 + 1, 0, none⟩) (by simp; omega) _
      · have := hb2.size; simp [World.setCell]; omega
    · rw [ha] at cA hr1
      have HA := Lib.hid cA
      have HR := Lib.hid hr1
      clear cA hr1 ha
      gi_wp2_with (refine ⟨trivial, rfl, ?_⟩; gi_at_call 82; refine (CallsIn.inRound l (callsIn_wide.2 HA.out)).mono ?_; rintro e w2 ⟨rfl, hb2⟩; have c3' := cell_keep hb2 c3; have f3' := frozen_keep hb2 (cell_lt c3) f3; have c4' := cell_keep hb2 c4; have f4' := frozen_keep hb2 (cell_lt c4) f4)
      exact ⟨(keepsOthers_of_below hb2).from _, Below.keepsIn hb2 (by omega), by rw [HR.out]; simp, boxed_keep h2 hb2, boxed_keep h3 hb2, boxed_keep h4 hb2, hbw.trans (hb2.mono (by omega)), by have := hb2.size; omega⟩
  case done =>
    rintro D W hD ⟨hr1, h2, h3, h4, hbw, hsz6⟩ hK
    rw [List.length_map, List.drop_eq_nil_of_le (Nat.le_refl _), List.find?_nil] at hr1
    have c3 := h3.cell; have f3 := h3.frozen
    have c4 := h4.cell; have f4 := h4.frozen
    have HR := Lib.hid hr1
    clear hr1
    gi_wp2
    have hk2 := ((KeepsOthers.setCell W ⟨w.heap.size + 1, 0, none⟩ (.string ⟨#[]⟩)).trans (KeepsOthers.setCell _ ⟨w.heap.size + 1 + 1, 0, none⟩ (.bool false))).same D _ hK rfl
    have hD' : w.heap.size + 1 + 1 + 1 ≤ D := by simp only [World.size_alloc] at hD; omega
    obtain ⟨W2, hW2⟩ : ∃ W2, W2 = (W.setCell ⟨w.heap.size + 1, 0, none⟩ (.string ⟨#[]⟩)).setCell ⟨w.heap.size + 1 + 1, 0, none⟩ (.bool false) := ⟨_, rfl⟩
    have x3 : Boxed W2 (w.heap.size + 1) 9 (.string ⟨#[]⟩) := hW2 ▸ boxed_far (h3.set _) (by simp) _
    have x4 : Boxed W2 (w.heap.size + 1 + 1) 4 (.bool false) := hW2 ▸ (boxed_far h4 (by simp) _).set _
    have hb2 : Below w.heap.size w W2 := hW2 ▸ (hbw.setCell (p := ⟨w.heap.size + 1, 0, none⟩) (by simp) _).setCell (p := ⟨w.heap.size + 1 + 1, 0, none⟩) (by simp; omega) _
    rw [← hW2] at hk2 ⊢
    clear hW2 h2 h3 h4 hbw c3 c4 f3 f4
    refine ⟨by simp, .inl ⟨_, _, rfl, run_takeDeferred hk2, ?_⟩⟩
    have hne : ∀ (B : Nat) (t : TypeId) (v : Value), Boxed W2 B t v → B < D → (W2.putObj D (.deferred none)).cell? ⟨B, 0, none⟩ = some v := fun B t v hv hlt => Boxed.cell (t := t) ((World.putObj_heap_other (by omega)).trans hv)
    have y3 := hne _ _ _ x3 (by omega)
    have y4 := hne _ _ _ x4 (by omega)
    refine ⟨.tuple #[.string ⟨#[]⟩, .bool false], by simp [results, Tryz.results42, go_sem, y3, y4], ?_, ?_⟩
    · rw [HV.out, HR.out]; rfl
    · exact hb2.grown (grownBy_putObj' W2 D _) (by have := hb2.size; omega) (fun r e => by cases e; omega)
  case stop =>
    rintro D c W hD ⟨rfl, x, hr1, h3, h4, hbw, hsz6⟩ hK
    have hD' : w.heap.size + 1 + 1 + 1 ≤ D := by simp only [World.size_alloc] at hD; omega
    have HR := Lib.hid hr1
    clear hr1
    gi_wp2
    refine ⟨by simp, .inl ⟨_, _, rfl, run_takeDeferred hK, ?_⟩⟩
    have hne : ∀ (B : Nat) (t : TypeId) (v : Value), Boxed W B t v → B < D → (W.putObj D (.deferred none)).cell? ⟨B, 0, none⟩ = some v := fun B t v hv hlt => Boxed.cell (t := t) ((World.putObj_heap_other (by omega)).trans hv)
    have y3 := hne _ _ _ h3 (by omega)
    have y4 := hne _ _ _ h4 (by omega)
    refine ⟨.tuple #[.string x, .bool true], by simp [results, Tryz.results42, go_sem, y3, y4], ?_, ?_⟩
    · rw [HV.out, HR.out]; rfl
    · exact hbw.grown (grownBy_putObj' W D _) (by have := hbw.size; omega) (fun r e => by cases e; omega)
end Go.Proofs.YtocgkpdolgnbgaaGreatDoor
namespace Go.Proofs.YtocgkpdolgnbgaaGreatDoor
open Go.RowKit Go.Sort
set_option linter.unusedVariables false
set_option linter.unusedSimpArgs false
set_option maxRecDepth 100000
attribute [local go_sem] Oper.semAt_some
set_option maxHeartbeats 4000000 in
theorem valuesI_iter (b : Nat) (A : Option Addr) (n c : Nat) (xs : List Int) (w : World) (h0 : w.cell? ⟨b, 0, none⟩ = some (.slice A n c)) (hA : Reads w 1 A n (xs.map (.int .i64))) (hn : n ≤ 1000000000) :
    Iter Tryz.prog 136 #[.pointer (some ⟨b, 0, none⟩)] (xs.map (.int .i64)) (fun _ _ => False) 0 w.heap.size w := by
  intro l J Jx W hW _ _ hY hJ0
  have g0 := cell_keep hW h0
  have hlt := reads_lt hA
  have hR := hA.keep hW
  have hl : xs.length = n := by have := hA.1; simp at this; omega
  generalize w.heap.size = h at *
  clear h0 hA hW w
  refine callsIn_of_wp Tryz.func136 rfl trivial ?_ rfl
  simp only [Tryz.ntmps136, List.size_toArray, List.length_cons, List.length_nil, Nat.reduceAdd, Nat.reduceSub, Array.replicate_succ, Array.replicate_zero, List.push_toArray, List.append_toArray, List.nil_append, List.cons_append]
  have HY := Lib.hid hY
  have HLT := Lib.hid hlt
  have HR0 := Lib.hid hR
  have HL := Lib.hid hl
  clear hY hlt hR hl
  gi_wp2
  gi_loopw [7] (fun i wr => ∃ k : Nat, i = .int .i64 k ∧ k ≤ n ∧ Hid (Reads wr 1 A n (xs.map (.int .i64))) ∧ J k wr) (fun i _ => n - (intOf i).toNat)
  case atStart => exact ⟨0, rfl, by omega, HR0, hJ0⟩
  case round =>
    clear g0 hJ0 HR0
    obtain ⟨k, rfl, hk, HR, hJ⟩ := hrel
    by_cases hkn : k < n
    · obtain ⟨x, hx⟩ : ∃ x, xs[k]? = some x := ⟨_, List.getElem?_eq_getElem (by have := HL.out; omega)⟩
      have hxv : (xs.map (Value.int .i64))[k]? = some (.int .i64 x) := by simp [hx]
      obtain ⟨fn, tmps, assign, body, hy, hRd⟩ := HY.out k _ wr hxv hJ
      obtain ⟨pb, po, rfl, hcell⟩ := HR.out.2 (by omega)
      have hc1 : wr.cell? ⟨pb, po + k, none⟩ = some (.int .i64 x) := hcell k _ hxv
      have hk0 : (0 : Int) ≤ (k : Int) := by omega
      have hk1 : (k : Int) < (n : Int) := by omega
      clear hcell hx hxv
      gi_wp2
      refine ⟨rfl, hRd.mono ?_⟩
      rintro e W' (⟨rfl, hJ', hk'⟩ | ⟨rfl, hJx'⟩)
      · have HR2 := Lib.hid (reads_keepIn HR.out hk' HLT.out)
        clear hc1 HR
        gi_wp2
        exact ⟨⟨k + 1, by go_num, by omega, HR2, hJ'⟩, by simp [intOf]; omega⟩
      · gi_wp2
        refine bodyPost_ret (results_none rfl _ _ _) rfl ?_
        exact ⟨⟨_, rfl⟩, .inr hJx'⟩
    · obtain rfl : k = n := by omega
      have hlen : k = (xs.map (Value.int .i64)).length := by have := HL.out; simp; omega
      have HLN := Lib.hid hlen
      clear hlen
      gi_wp2
      go_end0
      exact ⟨⟨_, rfl⟩, .inl (by rw [← HLN.out]; exact hJ)⟩
theorem ints_at {xs : List Int} {k : Nat} {u : Value} (h : (xs.map (Value.int .i64))[k]? = some u) : ∃ x, xs[k]? = some x ∧ u = .int .i64 x := by
  rw [List.getElem?_map, Option.map_eq_some_iff] at h
  obtain ⟨x, hx, rfl⟩ := h
  exact ⟨x, hx, rfl⟩
def outVI (r : Option Int) : Value := match r with
  | some x => .tuple #[.int .i64 x, .bool true]
  | none => .tuple #[.int .i64 0, .bool false]
def OutII (ys all : List Int) (B : Option Addr) (nb cb : Nat) (w : World) (hs : Nat) (k : Nat) (W : World) : Prop :=
  (all.find? (fun x => !allowsL ys x) = (all.drop k).find? (fun x => !allowsL ys x)) ∧ Boxed W w.heap.size 23 (.slice B nb cb) ∧ Boxed W (w.heap.size + 1) 3 (.int .i64 0) ∧ Boxed W (w.heap.size + 1 + 1) 4 (.bool false) ∧ Below w.heap.size w W ∧ hs ≤ W.heap.size
def OutXI (ys all : List Int) (w : World) (hs : Nat) (c : Code) (W : World) : Prop :=
  c = .ret ∧ ∃ x, all.find? (fun x => !allowsL ys x) = some x ∧ Boxed W (w.heap.size + 1) 3 (.int .i64 x) ∧ Boxed W (w.heap.size + 1 + 1) 4 (.bool true) ∧ Below w.heap.size w W ∧ hs ≤ W.heap.size
theorem outII_own (ys all : List Int) (Bb : Option Addr) (nb cb : Nat) (w : World) (hs B : Nat) (hB : w.heap.size ≤ B) : OwnFrom B (OutII ys all Bb nb cb w hs) := by
  rintro k W W' row ⟨h1, h2, h3, h4, h5, h6⟩ hg hr
  have hr' := fun r e => (hr r e).2
  exact ⟨h1, boxed_own w.heap.size 23 (fun _ : Unit => .slice Bb nb cb) () W W' row h2 hg hr', boxed_own (w.heap.size + 1) 3 (fun _ : Unit => .int .i64 0) () W W' row h3 hg hr', boxed_own (w.heap.size + 1 + 1) 4 (fun _ : Unit => .bool false) () W W' row h4 hg hr', h5.grown hg h5.size (fun r e => by have := (hr r e).1; omega), Nat.le_trans h6 hg.size⟩
theorem outXI_own (ys all : List Int) (w : World) (hs B : Nat) (hB : w.heap.size ≤ B) (c : Code) : OwnFrom B (fun (_ : Unit) => OutXI ys all w hs c) := by
  rintro _ W W' row ⟨h0, x, h1, h2, h3, h4, h5⟩ hg hr
  have hr' := fun r e => (hr r e).2
  exact ⟨h0, x, h1, boxed_own (w.heap.size + 1) 3 (fun _ : Unit => .int .i64 x) () W W' row h2 hg hr', boxed_own (w.heap.size + 1 + 1) 4 (fun _ : Unit => .bool true) () W W' row h3 hg hr', h4.grown hg h4.size (fun r e => by have := (hr r e).1; omega), Nat.le_trans h5 hg.size⟩
set_option maxHeartbeats 4000000 in
theorem outsideI_none (A : Option Addr) (ca : Nat) (B : Option Addr) (nb cb : Nat) (ys all : List Int) (gf : Nat) (w : World) (eg : ∀ args w, (callFunc gf args).run Tryz.prog w = .ok (.enter gf args) w)
    (hseq : ∀ h W, Iter Tryz.prog gf #[] (all.map (.int .i64)) (fun _ _ => False) 0 h W) (hB : Reads w 1 B nb (ys.map (.int .i64))) (hnb : nb ≤ 1000000000) :
    Calls Tryz.prog 45 #[.slice A 0 ca, .slice B nb cb, .func (.func gf) #[] #[]] w (Ret w (outVI (all.find? fun x => !allowsL ys x))) := by
  obtain ⟨V, hV⟩ : ∃ V, V = outVI (all.find? fun x => !allowsL ys x) := ⟨_, rfl⟩
  rw [← hV]
  have HV := Lib.hid hV
  have HB := Lib.hid hB
  obtain ⟨hs, hhs⟩ : ∃ hs, hs = w.heap.size + 1 + 1 + 1 := ⟨_, rfl⟩
  have hq0 := hseq hs (((w.alloc (.cells #[.slice B nb cb] 23)).alloc (.cells #[.int .i64 0] 3)).alloc (.cells #[.bool false] 4))
  have hbw0 : Below w.heap.size w (((w.alloc (.cells #[.slice B nb cb] 23)).alloc (.cells #[.int .i64 0] 3)).alloc (.cells #[.bool false] 4)) := balloc (balloc (balloc (Below.refl _ _) _) _) _
  have b1 := Boxed.new w 23 (.slice B nb cb)
  have b2 := Boxed.new (w.alloc (.cells #[.slice B nb cb] 23)) 3 (.int .i64 0)
  have b3' := Boxed.new ((w.alloc (.cells #[.slice B nb cb] 23)).alloc (.cells #[.int .i64 0] 3)) 4 (.bool false)
  simp only [World.size_alloc] at b2 b3'
  have b1' := (b1.alloc (.cells #[.int .i64 0] 3)).alloc (.cells #[.bool false] 4)
  have b2' := b2.alloc (.cells #[.bool false] 4)
  have hKI : hs ≤ (((w.alloc (.cells #[.slice B nb cb] 23)).alloc (.cells #[.int .i64 0] 3)).alloc (.cells #[.bool false] 4)).heap.size := by simp; omega
  have hhs2 : w.heap.size + 1 + 1 + 1 ≤ hs := by omega
  clear hV hB hseq hhs b1 b2
  refine (callsIn_wide (n := 0)).1 ?_; refine callsIn_of_wp_marks Tryz.func45 rfl trivial ?_ rfl; simp only [Tryz.ntmps45, List.size_toArray, List.length_cons, List.length_nil, Nat.reduceAdd, Nat.reduceSub, Array.replicate_succ, Array.replicate_zero, List.push_toArray, List.append_toArray, List.nil_append, List.cons_append]
  gi_wp2
  refine range_law (gf := gf) (lb := _) rfl eg hq0 (Below.refl _ _) hKI (OutII ys all B nb cb w hs) (OutXI ys all w hs) (outII_own ys all B nb cb w hs _ (by simp; omega)) (fun c => outXI_own ys all w hs _ (by simp; omega) c) ⟨by simp, b1', b2', b3', hbw0, hKI⟩ (fun _ _ _ _ h => h.elim) (fun _ _ h => h.elim) ?a1 ?assign ?body ?done ?stop
  case assign =>
    intro l x W K _ hK
    gi_wp2
    exact hK
  case body =>
    rintro l k x W hx ⟨hr1, h2, h3, h4, hbw, hsz6⟩
    obtain ⟨p, hp, rfl⟩ := ints_at hx
    rw [find_step hp] at hr1
    have cA := allowsI_any B nb cb ys p W (HB.out.keep hbw) (by omega)
    have c2 := h2.cell
    have c3 := h3.cell; have f3 := h3.frozen
    have c4 := h4.cell; have f4 := h4.frozen
    clear hx hp
    cases ha : allowsL ys p
    · rw [ha] at cA hr1
      have HA := Lib.hid cA
      have HR := Lib.hid hr1
      clear cA hr1 ha
      gi_wp2_with (refine ⟨trivial, rfl, ?_⟩; gi_at_call 83; refine (CallsIn.inRound l (callsIn_wide.2 HA.out)).mono ?_; rintro e w2 ⟨rfl, hb2⟩; have c3' := cell_keep hb2 c3; have f3' := frozen_keep hb2 (cell_lt c3) f3; have c4' := cell_keep hb2 c4; have f4' := frozen_keep hb2 (cell_lt c4) f4)
      have g3 := boxed_keep h3 hb2
      have g4 := boxed_keep h4 hb2
      refine ⟨(((keepsOthers_of_below hb2).trans (KeepsOthers.setCell _ _ _)).trans (KeepsOthers.setCell _ _ _)).from _, rfl, p, by rw [HR.out]; simp, boxed_far (g3.set _) (by simp) _, (boxed_far g4 (by simp) _).set _, ?_, ?_⟩
      · exact ((hbw.trans (hb2.mono (by omega))).setCell (p := ⟨w.heap.size + 1, 0, none⟩) (by simp) _).setCell (p := ⟨w.heap.size + 1 + 1, 0, none⟩) (by simp; omega) _
      · have := hb2.size; simp [World.setCell]; omega
    · rw [ha] at cA hr1
      have HA := Lib.hid cA
      have HR := Lib.hid hr1
      clear cA hr1 ha
      gi_wp2_with (refine ⟨trivial, rfl, ?_⟩; gi_at_call 83; refine (CallsIn.inRound l (callsIn_wide.2 HA.out)).mono ?_; rintro e w2 ⟨rfl, hb2⟩; have c3' := cell_keep hb2 c3; have f3' := frozen_keep hb2 (cell_lt c3) f3; have c4' := cell_keep hb2 c4; have f4' := frozen_keep hb2 (cell_lt c4) f4)
      exact ⟨(keepsOthers_of_below hb2).from _, Below.keepsIn hb2 (by omega), by rw [HR.out]; simp, boxed_keep h2 hb2, boxed_keep h3 hb2, boxed_keep h4 hb2, hbw.trans (hb2.mono (by omega)), by have := hb2.size; omega⟩
  case done =>
    rintro D W hD ⟨hr1, h2, h3, h4, hbw, hsz6⟩ hK
    rw [List.length_map, List.drop_eq_nil_of_le (Nat.le_refl _), List.find?_nil] at hr1
    have c3 := h3.cell; have f3 := h3.frozen
    have c4 := h4.cell; have f4 := h4.frozen
    have HR := Lib.hid hr1
    clear hr1
    gi_wp2
    have hk2 := ((KeepsOthers.setCell W ⟨w.heap.size + 1, 0, none⟩ (.int .i64 0)).trans (KeepsOthers.setCell _ ⟨w.heap.size + 1 + 1, 0, none⟩ (.bool false))).same D _ hK rfl
    have hD' : w.heap.size + 1 + 1 + 1 ≤ D := by simp only [World.size_alloc] at hD; omega
    obtain ⟨W2, hW2⟩ : ∃ W2, W2 = (W.setCell ⟨w.heap.size + 1, 0, none⟩ (.int .i64 0)).setCell ⟨w.heap.size + 1 + 1, 0, none⟩ (.bool false) := ⟨_, rfl⟩
    have x3 : Boxed W2 (w.heap.size + 1) 3 (.int .i64 0) := hW2 ▸ boxed_far (h3.set _) (by simp) _
    have x4 : Boxed W2 (w.heap.size + 1 + 1) 4 (.bool false) := hW2 ▸ (boxed_far h4 (by simp) _).set _
    have hb2 : Below w.heap.size w W2 := hW2 ▸ (hbw.setCell (p := ⟨w.heap.size + 1, 0, none⟩) (by simp) _).setCell (p := ⟨w.heap.size + 1 + 1, 0, none⟩) (by simp; omega) _
    rw [← hW2] at hk2 ⊢
    clear hW2 h2 h3 h4 hbw c3 c4 f3 f4
    refine ⟨by simp, .inl ⟨_, _, rfl, run_takeDeferred hk2, ?_⟩⟩
    have hne : ∀ (B : Nat) (t : TypeId) (v : Value), Boxed W2 B t v → B < D → (W2.putObj D (.deferred none)).cell? ⟨B, 0, none⟩ = some v := fun B t v hv hlt => Boxed.cell (t := t) ((World.putObj_heap_other (by omega)).trans hv)
    have y3 := hne _ _ _ x3 (by omega)
    have y4 := hne _ _ _ x4 (by omega)
    refine ⟨.tuple #[.int .i64 0, .bool false], by simp [results, Tryz.results45, go_sem, y3, y4], ?_, ?_⟩
    · rw [HV.out, HR.out]; rfl
    · exact hb2.grown (grownBy_putObj' W2 D _) (by have := hb2.size; omega) (fun r e => by cases e; omega)
  case stop =>
    rintro D c W hD ⟨rfl, x, hr1, h3, h4, hbw, hsz6⟩ hK
    have hD' : w.heap.size + 1 + 1 + 1 ≤ D := by simp only [World.size_alloc] at hD; omega
    have HR := Lib.hid hr1
    clear hr1
    gi_wp2
    refine ⟨by simp, .inl ⟨_, _, rfl, run_takeDeferred hK, ?_⟩⟩
    have hne : ∀ (B : Nat) (t : TypeId) (v : Value), Boxed W B t v → B < D → (W.putObj D (.deferred none)).cell? ⟨B, 0, none⟩ = some v := fun B t v hv hlt => Boxed.cell (t := t) ((World.putObj_heap_other (by omega)).trans hv)
    have y3 := hne _ _ _ h3 (by omega)
    have y4 := hne _ _ _ h4 (by omega)
    refine ⟨.tuple #[.int .i64 x, .bool true], by simp [results, Tryz.results45, go_sem, y3, y4], ?_, ?_⟩
    · rw [HV.out, HR.out]; rfl
    · exact hbw.grown (grownBy_putObj' W D _) (by have := hbw.size; omega) (fun r e => by cases e; omega)
theorem valuesI_any (A : Option Addr) (n c : Nat) (w : World) : Calls Tryz.prog 103 #[.slice A n c] w fun e w' => e = .returned (.func (.func 136) #[] #[.pointer (some ⟨w.heap.size, 0, none⟩)]) ∧ w' = w.alloc (.cells #[.slice A n c] 23) := by
  go_enter Tryz.func103, Tryz.ntmps103
  go_wp2
  go_ret
  exact ⟨rfl, rfl⟩
set_option maxHeartbeats 4000000 in
theorem outsideI_some (A : Option Addr) (na ca : Nat) (B : Option Addr) (nb cb : Nat) (ys all : List Int) (fv : Value) (w : World)
    (hA : Reads w 1 A na (all.map (.int .i64))) (hB : Reads w 1 B nb (ys.map (.int .i64))) (hna0 : 0 < na) (hna : na ≤ 1000000000) (hnb : nb ≤ 1000000000) :
    Calls Tryz.prog 45 #[.slice A na ca, .slice B nb cb, fv] w (Ret w (outVI (all.find? fun x => !allowsL ys x))) := by
  obtain ⟨V, hV⟩ : ∃ V, V = outVI (all.find? fun x => !allowsL ys x) := ⟨_, rfl⟩
  rw [← hV]
  have HV := Lib.hid hV
  have HB := Lib.hid hB
  obtain ⟨hs, hhs⟩ : ∃ hs, hs = w.heap.size + 1 + 1 + 1 + 1 := ⟨_, rfl⟩
  have hbw0 : Below w.heap.size w ((((w.alloc (.cells #[.slice B nb cb] 23)).alloc (.cells #[.int .i64 0] 3)).alloc (.cells #[.bool false] 4)).alloc (.cells #[.slice A na ca] 23)) := balloc (balloc (balloc (balloc (Below.refl _ _) _) _) _) _
  obtain ⟨lb, hlb⟩ : ∃ lb : Array Value, lb = #[.pointer (some ⟨w.heap.size + 1 + 1 + 1, 0, none⟩)] := ⟨_, rfl⟩
  obtain ⟨gf, hgf⟩ : ∃ gf : Nat, gf = 136 := ⟨_, rfl⟩
  have eg : ∀ args w, (callFunc gf args).run Tryz.prog w = .ok (.enter gf args) w := by rw [hgf]; exact enters_of Tryz.func136 (by kernel_rfl) rfl
  have b1 := Boxed.new w 23 (.slice B nb cb)
  have b2 := Boxed.new (w.alloc (.cells #[.slice B nb cb] 23)) 3 (.int .i64 0)
  have b3 := Boxed.new ((w.alloc (.cells #[.slice B nb cb] 23)).alloc (.cells #[.int .i64 0] 3)) 4 (.bool false)
  have b4 := Boxed.new (((w.alloc (.cells #[.slice B nb cb] 23)).alloc (.cells #[.int .i64 0] 3)).alloc (.cells #[.bool false] 4)) 23 (.slice A na ca)
  simp only [World.size_alloc] at b2 b3 b4
  have hq0 := valuesI_iter (w.heap.size + 1 + 1 + 1) A na ca all _ b4.cell (hA.keep hbw0) hna
  rw [← hlb, ← hgf] at hq0
  have hv := fun W => valuesI_any A na ca W
  rw [← hgf] at hv
  have HVA := Lib.hid hv
  have HLB := Lib.hid hlb
  have b1' := ((b1.alloc (.cells #[.int .i64 0] 3)).alloc (.cells #[.bool false] 4)).alloc (.cells #[.slice A na ca] 23)
  have b2' := (b2.alloc (.cells #[.bool false] 4)).alloc (.cells #[.slice A na ca] 23)
  have b3' := b3.alloc (.cells #[.slice A na ca] 23)
  simp only [World.size_alloc] at hq0
  rw [← hhs] at hq0
  have hKI : hs ≤ ((((w.alloc (.cells #[.slice B nb cb] 23)).alloc (.cells #[.int .i64 0] 3)).alloc (.cells #[.bool false] 4)).alloc (.cells #[.slice A na ca] 23)).heap.size := by simp; omega
  have hhs2 : w.heap.size + 1 + 1 + 1 ≤ hs := by omega
  have e0 : (0 : Int) < (na : Int) := by omega
  clear hV hB hA hhs b1 b2 b3 b4 hv hgf
  refine (callsIn_wide (n := 0)).1 ?_; refine callsIn_of_wp_marks Tryz.func45 rfl trivial ?_ rfl; simp only [Tryz.ntmps45, List.size_toArray, List.length_cons, List.length_nil, Nat.reduceAdd, Nat.reduceSub, Array.replicate_succ, Array.replicate_zero, List.push_toArray, List.append_toArray, List.nil_append, List.cons_append]
  gi_wp2_with (refine ⟨trivial, rfl, ?_⟩; gi_at_call 103; refine (callsIn_wide.2 (HVA.out _)).mono ?_; rintro e w' ⟨rfl, hw'⟩; rw [hw']; simp only [World.size_alloc]; rw [← HLB.out])
  refine range_law (gf := gf) (lb := _) rfl eg hq0 (Below.refl _ _) hKI (OutII ys all B nb cb w hs) (OutXI ys all w hs) (outII_own ys all B nb cb w hs _ (by simp; omega)) (fun c => outXI_own ys all w hs _ (by simp; omega) c) ⟨by simp, b1', b2', b3', hbw0, hKI⟩ (fun _ _ _ _ h => h.elim) (fun _ _ h => h.elim) ?a1 ?assign ?body ?done ?stop
  case assign =>
    intro l x W K _ hK
    gi_wp2
    exact hK
  case body =>
    rintro l k x W hx ⟨hr1, h2, h3, h4, hbw, hsz6⟩
    obtain ⟨p, hp, rfl⟩ := ints_at hx
    rw [find_step hp] at hr1
    have cA := allowsI_any B nb cb ys p W (HB.out.keep hbw) (by omega)
    have c2 := h2.cell
    have c3 := h3.cell; have f3 := h3.frozen
    have c4 := h4.cell; have f4 := h4.frozen
    clear hx hp
    cases ha : allowsL ys p
    · rw [ha] at cA hr1
      have HA := Lib.hid cA
      have HR := Lib.hid hr1
      clear cA hr1 ha
      gi_wp2_with (refine ⟨trivial, rfl, ?_⟩; gi_at_call 83; refine (CallsIn.inRound l (callsIn_wide.2 HA.out)).mono ?_; rintro e w2 ⟨rfl, hb2⟩; have c3' := cell_keep hb2 c3; have f3' := frozen_keep hb2 (cell_lt c3) f3; have c4' := cell_keep hb2 c4; have f4' := frozen_keep hb2 (cell_lt c4) f4)
      have g3 := boxed_keep h3 hb2
      have g4 := boxed_keep h4 hb2
      refine ⟨(((keepsOthers_of_below hb2).trans (KeepsOthers.setCell _ _ _)).trans (KeepsOthers.setCell _ _ _)).from _, rfl, p, by rw [HR.out]; simp, boxed_far (g3.set _) (by simp) _, (boxed_far g4 (by simp) _).set _, ?_, ?_⟩
      · exact ((hbw.trans (hb2.mono (by omega))).setCell (p := ⟨w.heap.size + 1, 0, none⟩) (by simp) _).setCell (p := ⟨w.heap.size + 1 + 1, 0, none⟩) (by simp; omega) _
      · have := hb2.size; simp [World.setCell]; omega
    · rw [ha] at cA hr1
      have HA := Lib.hid cA
      have HR := Lib.hid hr1
      clear cA hr1 ha
      gi_wp2_with (refine ⟨trivial, rfl, ?_⟩; gi_at_call 83; refine (CallsIn.inRound l (callsIn_wide.2 HA.out)).mono ?_; rintro e w2 ⟨rfl, hb2⟩; have c3' := cell_keep hb2 c3; have f3' := frozen_keep hb2 (cell_lt c3) f3; have c4' := cell_keep hb2 c4; have f4' := frozen_keep hb2 (cell_lt c4) f4)
      exact ⟨(keepsOthers_of_below hb2).from _, Below.keepsIn hb2 (by omega), by rw [HR.out]; simp, boxed_keep h2 hb2, boxed_keep h3 hb2, boxed_keep h4 hb2, hbw.trans (hb2.mono (by omega)), by have := hb2.size; omega⟩
  case done =>
    rintro D W hD ⟨hr1, h2, h3, h4, hbw, hsz6⟩ hK
    rw [List.length_map, List.drop_eq_nil_of_le (Nat.le_refl _), List.find?_nil] at hr1
    have c3 := h3.cell; have f3 := h3.frozen
    have c4 := h4.cell; have f4 := h4.frozen
    have HR := Lib.hid hr1
    clear hr1
    gi_wp2
    have hk2 := ((KeepsOthers.setCell W ⟨w.heap.size + 1, 0, none⟩ (.int .i64 0)).trans (KeepsOthers.setCell _ ⟨w.heap.size + 1 + 1, 0, none⟩ (.bool false))).same D _ hK rfl
    have hD' : w.heap.size + 1 + 1 + 1 ≤ D := by simp only [World.size_alloc] at hD; omega
    obtain ⟨W2, hW2⟩ : ∃ W2, W2 = (W.setCell ⟨w.heap.size + 1, 0, none⟩ (.int .i64 0)).setCell ⟨w.heap.size + 1 + 1, 0, none⟩ (.bool false) := ⟨_, rfl⟩
    have x3 : Boxed W2 (w.heap.size + 1) 3 (.int .i64 0) := hW2 ▸ boxed_far (h3.set _) (by simp) _
    have x4 : Boxed W2 (w.heap.size + 1 + 1) 4 (.bool false) := hW2 ▸ (boxed_far h4 (by simp) _).set _
    have hb2 : Below w.heap.size w W2 := hW2 ▸ (hbw.setCell (p := ⟨w.heap.size + 1, 0, none⟩) (by simp) _).setCell (p := ⟨w.heap.size + 1 + 1, 0, none⟩) (by simp; omega) _
    rw [← hW2] at hk2 ⊢
    clear hW2 h2 h3 h4 hbw c3 c4 f3 f4
    refine ⟨by simp, .inl ⟨_, _, rfl, run_takeDeferred hk2, ?_⟩⟩
    have hne : ∀ (B : Nat) (t : TypeId) (v : Value), Boxed W2 B t v → B < D → (W2.putObj D (.deferred none)).cell? ⟨B, 0, none⟩ = some v := fun B t v hv hlt => Boxed.cell (t := t) ((World.putObj_heap_other (by omega)).trans hv)
    have y3 := hne _ _ _ x3 (by omega)
    have y4 := hne _ _ _ x4 (by omega)
    refine ⟨.tuple #[.int .i64 0, .bool false], by simp [results, Tryz.results45, go_sem, y3, y4], ?_, ?_⟩
    · rw [HV.out, HR.out]; rfl
    · exact hb2.grown (grownBy_putObj' W2 D _) (by have := hb2.size; omega) (fun r e => by cases e; omega)
  case stop =>
    rintro D c W hD ⟨rfl, x, hr1, h3, h4, hbw, hsz6⟩ hK
    have hD' : w.heap.size + 1 + 1 + 1 ≤ D := by simp only [World.size_alloc] at hD; omega
    have HR := Lib.hid hr1
    clear hr1
    gi_wp2
    refine ⟨by simp, .inl ⟨_, _, rfl, run_takeDeferred hK, ?_⟩⟩
    have hne : ∀ (B : Nat) (t : TypeId) (v : Value), Boxed W B t v → B < D → (W.putObj D (.deferred none)).cell? ⟨B, 0, none⟩ = some v := fun B t v hv hlt => Boxed.cell (t := t) ((World.putObj_heap_other (by omega)).trans hv)
    have y3 := hne _ _ _ h3 (by omega)
    have y4 := hne _ _ _ h4 (by omega)
    refine ⟨.tuple #[.int .i64 x, .bool true], by simp [results, Tryz.results45, go_sem, y3, y4], ?_, ?_⟩
    · rw [HV.out, HR.out]; rfl
    · exact hbw.grown (grownBy_putObj' W D _) (by have := hbw.size; omega) (fun r e => by cases e; omega)
end Go.Proofs.YtocgkpdolgnbgaaGreatDoor
