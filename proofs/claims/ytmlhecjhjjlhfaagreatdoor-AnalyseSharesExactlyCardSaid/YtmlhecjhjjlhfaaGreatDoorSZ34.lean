/- slices.IndexFunc and ContainsFunc over rules, ways to vary and headers: the function is known by its contract (made by tools/genF24.py). -/
import Derived.Test.YtmlhecjhjjlhfaaGreatDoorSZ31
import Derived.Test.YtmlhecjhjjlhfaaGreatDoorSZ18
import Derived.Test.YtmlhecjhjjlhfaaGreatDoorProg
import Derived.WalkKit
import Derived.WalkSpells
import Derived.WalkLawsBesides
import Derived.Below
import Derived.Deep.QuietTactic
import Derived.BigQuiet
import Derived.Lib.QuietBelow
import Derived.Lib.Strings
import Derived.Lib.Hide
import Derived.Deep.RegionWith
import Derived.Deep.RegionHeld3
import Derived.Lib.IndexBytes
import Derived.Test.YtmlhecjhjjlhfaaGreatDoorSZ1
import Derived.Laws.Rows
import Derived.Laws.Tables
import Derived.Laws.CopyOwn
import Derived.Test.YtmlhecjhjjlhfaaGreatDoorSZ4
import Derived.OwnWalk
import Derived.Maps.AppendAt
import Derived.Test.YtmlhecjhjjlhfaaGreatDoorSZ16
namespace Go.Proofs.YtmlhecjhjjlhfaaGreatDoor
open Go.RowKit Go.Sort
set_option linter.unusedVariables false
set_option linter.unusedSimpArgs false
set_option maxRecDepth 100000
theorem idxA_any {α : Type} (p : α → Bool) : ∀ (l : List α) (k : Nat), decide (0 ≤ idxA p l k) = l.any p
  | [], _ => rfl
  | x :: r, k => by
    rw [idxA, List.any_cons]
    cases h : p x
    · rw [if_neg (by decide), idxA_any p r (k + 1), Bool.false_or]
    · rw [if_pos rfl, Bool.true_or]
      exact decide_eq_true (by omega)
theorem idxA_ge {α : Type} (p : α → Bool) : ∀ (l : List α) (k : Nat), -1 ≤ idxA p l k
  | [], _ => by rw [idxA]; omega
  | x :: r, k => by
    rw [idxA]
    split
    · omega
    · exact idxA_ge p r (k + 1)
set_option maxHeartbeats 2000000 in
theorem indexFuncRU0_any (g : Nat) (eg : ∀ args w, (callFunc g args).run Tryz.prog w = .ok (.enter g args) w) (p : RuleM → Bool) (A : Option Addr) (n c : Nat) (L : List RuleM) (w : World)
    (hp : ∀ x ∈ L, ∀ W, Below w.heap.size w W → Calls Tryz.prog g #[x.val] W (Ret W (.bool (p x)))) (hA : RulesRead w A n L) (hn : n ≤ 1000000000) :
    Calls Tryz.prog 108 #[.slice A n c, .func (.func g) #[] #[]] w (Ret w (.int .i64 (idxA p L 0))) := by
  have hl : n ≤ L.length ∧ L.length ≤ n := by have := hA.len; omega
  have HP := Lib.hid hp; have HA := Lib.hid hA
  clear hp hA
  go_enter Tryz.func108, Tryz.ntmps108
  go_wp2
  go_loopw [8] (fun i wr => ∃ k : Nat, k ≤ n ∧ i = .int .i64 k ∧ Hid (idxA p L 0 = idxA p (L.drop k) k) ∧ Below w.heap.size w wr) (fun i _ => n - (intOf i).toNat)
  case atStart => exact ⟨0, by omega, rfl, Lib.hid rfl, Below.refl _ _⟩
  case round =>
    obtain ⟨k, hk, rfl, HI, hb⟩ := hrel
    by_cases hlt : k < n
    · obtain ⟨x, hx⟩ : ∃ x, L[k]? = some x := ⟨_, List.getElem?_eq_getElem (by omega)⟩
      obtain ⟨_, b, o, rfl, hcell⟩ := (HA.out.keep hb).at_ hx
      have hld := rule_load wr b (o + k * 18) x hcell
      have hc := HP.out x (List.mem_of_getElem? hx) wr hb
      have hd : L.drop k = x :: L.drop (k + 1) := by
        obtain ⟨hl2, rfl⟩ := List.getElem?_eq_some_iff.1 hx
        exact List.drop_eq_getElem_cons hl2
      have HI2 := HI.out
      rw [hd, idxA] at HI2
      have HX := Lib.hid hcell
      clear hd hx HI hcell
      have HI := Lib.hid HI2
      clear HI2
      have hxv : x.val = x.val := rfl
      generalize x.val = xv at hld hc
      clear hxv
      cases hpx : p x
      all_goals
        rw [hpx] at hc HI
        have HC := Lib.hid hc
        clear hc hpx
        go_wp2_with (first | (refine wpList_load_addr rfl _ _ rfl ⟨b, o + k * 18, none⟩ xv rfl hld ?_) | (go_at_fn g; refine (HC.out).mono ?_; rintro e w2 ⟨rfl, hb2⟩))
      · refine ⟨⟨k + 1, by omega, by go_num, Lib.hid (by have := HI.out; simpa using this), bstep hb hb2⟩, by simp [intOf]; omega⟩
      · go_ret
        have := HI.out
        exact ⟨ret_int (by rw [this]; simp), bstep hb hb2⟩
    · have he : idxA p L 0 = -1 := by rw [HI.out, List.drop_eq_nil_of_le (by omega)]; rfl
      have HE := Lib.hid he
      clear he HI
      go_wp2
      go_ret
      exact ⟨ret_int HE.out.symm, hb⟩
theorem containsFuncRU0_any (g : Nat) (eg : ∀ args w, (callFunc g args).run Tryz.prog w = .ok (.enter g args) w) (p : RuleM → Bool) (A : Option Addr) (n c : Nat) (L : List RuleM) (w : World)
    (hp : ∀ x ∈ L, ∀ W, Below w.heap.size w W → Calls Tryz.prog g #[x.val] W (Ret W (.bool (p x)))) (hA : RulesRead w A n L) (hn : n ≤ 1000000000) :
    Calls Tryz.prog 53 #[.slice A n c, .func (.func g) #[] #[]] w (Ret w (.bool (L.any p))) := by
  rw [← idxA_any p L 0]
  have H := Lib.hid (indexFuncRU0_any g eg  p A n c L w hp hA hn)
  clear hp hA
  generalize idxA p L 0 = r at H ⊢
  go_enter Tryz.func53, Tryz.ntmps53
  go_wp2_with (go_at_call 108; refine H.out.mono ?_; rintro e w2 ⟨rfl, hb2⟩)
  go_ret
  exact ⟨rfl, hb2⟩
set_option maxHeartbeats 2000000 in
theorem indexFuncVA0_any (g : Nat) (eg : ∀ args w, (callFunc g args).run Tryz.prog w = .ok (.enter g args) w) (p : VaryM → Bool) (A : Option Addr) (n c : Nat) (L : List VaryM) (w : World)
    (hp : ∀ x ∈ L, ∀ W, Below w.heap.size w W → Calls Tryz.prog g #[x.val] W (Ret W (.bool (p x)))) (hA : VarysRead w A n L) (hn : n ≤ 1000000000) :
    Calls Tryz.prog 171 #[.slice A n c, .func (.func g) #[] #[]] w (Ret w (.int .i64 (idxA p L 0))) := by
  have hl : n ≤ L.length ∧ L.length ≤ n := by have := hA.len; omega
  have HP := Lib.hid hp; have HA := Lib.hid hA
  clear hp hA
  go_enter Tryz.func171, Tryz.ntmps171
  go_wp2
  go_loopw [8] (fun i wr => ∃ k : Nat, k ≤ n ∧ i = .int .i64 k ∧ Hid (idxA p L 0 = idxA p (L.drop k) k) ∧ Below w.heap.size w wr) (fun i _ => n - (intOf i).toNat)
  case atStart => exact ⟨0, by omega, rfl, Lib.hid rfl, Below.refl _ _⟩
  case round =>
    obtain ⟨k, hk, rfl, HI, hb⟩ := hrel
    by_cases hlt : k < n
    · obtain ⟨x, hx⟩ : ∃ x, L[k]? = some x := ⟨_, List.getElem?_eq_getElem (by omega)⟩
      obtain ⟨_, b, o, rfl, hcell⟩ := (HA.out.keep hb).at_ hx
      have hld := varyA_load wr b (o + k * 3) x hcell
      have hc := HP.out x (List.mem_of_getElem? hx) wr hb
      have hd : L.drop k = x :: L.drop (k + 1) := by
        obtain ⟨hl2, rfl⟩ := List.getElem?_eq_some_iff.1 hx
        exact List.drop_eq_getElem_cons hl2
      have HI2 := HI.out
      rw [hd, idxA] at HI2
      have HX := Lib.hid hcell
      clear hd hx HI hcell
      have HI := Lib.hid HI2
      clear HI2
      have hxv : x.val = x.val := rfl
      generalize x.val = xv at hld hc
      clear hxv
      cases hpx : p x
      all_goals
        rw [hpx] at hc HI
        have HC := Lib.hid hc
        clear hc hpx
        go_wp2_with (first | (refine wpList_load_addr rfl _ _ rfl ⟨b, o + k * 3, none⟩ xv rfl hld ?_) | (go_at_fn g; refine (HC.out).mono ?_; rintro e w2 ⟨rfl, hb2⟩))
      · refine ⟨⟨k + 1, by omega, by go_num, Lib.hid (by have := HI.out; simpa using this), bstep hb hb2⟩, by simp [intOf]; omega⟩
      · go_ret
        have := HI.out
        exact ⟨ret_int (by rw [this]; simp), bstep hb hb2⟩
    · have he : idxA p L 0 = -1 := by rw [HI.out, List.drop_eq_nil_of_le (by omega)]; rfl
      have HE := Lib.hid he
      clear he HI
      go_wp2
      go_ret
      exact ⟨ret_int HE.out.symm, hb⟩
theorem containsFuncVA0_any (g : Nat) (eg : ∀ args w, (callFunc g args).run Tryz.prog w = .ok (.enter g args) w) (p : VaryM → Bool) (A : Option Addr) (n c : Nat) (L : List VaryM) (w : World)
    (hp : ∀ x ∈ L, ∀ W, Below w.heap.size w W → Calls Tryz.prog g #[x.val] W (Ret W (.bool (p x)))) (hA : VarysRead w A n L) (hn : n ≤ 1000000000) :
    Calls Tryz.prog 111 #[.slice A n c, .func (.func g) #[] #[]] w (Ret w (.bool (L.any p))) := by
  rw [← idxA_any p L 0]
  have H := Lib.hid (indexFuncVA0_any g eg  p A n c L w hp hA hn)
  clear hp hA
  generalize idxA p L 0 = r at H ⊢
  go_enter Tryz.func111, Tryz.ntmps111
  go_wp2_with (go_at_call 171; refine H.out.mono ?_; rintro e w2 ⟨rfl, hb2⟩)
  go_ret
  exact ⟨rfl, hb2⟩
set_option maxHeartbeats 2000000 in
theorem indexFuncVA1_any (g : Nat) (eg : ∀ args w, (callFunc g args).run Tryz.prog w = .ok (.enter g args) w) (cv0 : Value) (p : VaryM → Bool) (A : Option Addr) (n c : Nat) (L : List VaryM) (w : World)
    (hp : ∀ x ∈ L, ∀ W, Below w.heap.size w W → Calls Tryz.prog g #[x.val, cv0] W (Ret W (.bool (p x)))) (hA : VarysRead w A n L) (hn : n ≤ 1000000000) :
    Calls Tryz.prog 171 #[.slice A n c, .func (.func g) #[] #[cv0]] w (Ret w (.int .i64 (idxA p L 0))) := by
  have hl : n ≤ L.length ∧ L.length ≤ n := by have := hA.len; omega
  have HP := Lib.hid hp; have HA := Lib.hid hA
  clear hp hA
  go_enter Tryz.func171, Tryz.ntmps171
  go_wp2
  go_loopw [8] (fun i wr => ∃ k : Nat, k ≤ n ∧ i = .int .i64 k ∧ Hid (idxA p L 0 = idxA p (L.drop k) k) ∧ Below w.heap.size w wr) (fun i _ => n - (intOf i).toNat)
  case atStart => exact ⟨0, by omega, rfl, Lib.hid rfl, Below.refl _ _⟩
  case round =>
    obtain ⟨k, hk, rfl, HI, hb⟩ := hrel
    by_cases hlt : k < n
    · obtain ⟨x, hx⟩ : ∃ x, L[k]? = some x := ⟨_, List.getElem?_eq_getElem (by omega)⟩
      obtain ⟨_, b, o, rfl, hcell⟩ := (HA.out.keep hb).at_ hx
      have hld := varyA_load wr b (o + k * 3) x hcell
      have hc := HP.out x (List.mem_of_getElem? hx) wr hb
      have hd : L.drop k = x :: L.drop (k + 1) := by
        obtain ⟨hl2, rfl⟩ := List.getElem?_eq_some_iff.1 hx
        exact List.drop_eq_getElem_cons hl2
      have HI2 := HI.out
      rw [hd, idxA] at HI2
      have HX := Lib.hid hcell
      clear hd hx HI hcell
      have HI := Lib.hid HI2
      clear HI2
      have hxv : x.val = x.val := rfl
      generalize x.val = xv at hld hc
      clear hxv
      cases hpx : p x
      all_goals
        rw [hpx] at hc HI
        have HC := Lib.hid hc
        clear hc hpx
        go_wp2_with (first | (refine wpList_load_addr rfl _ _ rfl ⟨b, o + k * 3, none⟩ xv rfl hld ?_) | (go_at_fn g; refine (HC.out).mono ?_; rintro e w2 ⟨rfl, hb2⟩))
      · refine ⟨⟨k + 1, by omega, by go_num, Lib.hid (by have := HI.out; simpa using this), bstep hb hb2⟩, by simp [intOf]; omega⟩
      · go_ret
        have := HI.out
        exact ⟨ret_int (by rw [this]; simp), bstep hb hb2⟩
    · have he : idxA p L 0 = -1 := by rw [HI.out, List.drop_eq_nil_of_le (by omega)]; rfl
      have HE := Lib.hid he
      clear he HI
      go_wp2
      go_ret
      exact ⟨ret_int HE.out.symm, hb⟩
set_option maxHeartbeats 2000000 in
theorem indexFuncHD1_any (g : Nat) (eg : ∀ args w, (callFunc g args).run Tryz.prog w = .ok (.enter g args) w) (cv0 : Value) (p : Hdr → Bool) (A : Option Addr) (n c : Nat) (L : List Hdr) (w : World)
    (hp : ∀ x ∈ L, ∀ W, Below w.heap.size w W → Calls Tryz.prog g #[x.val, cv0] W (Ret W (.bool (p x)))) (hA : HdrsRead w A n L) (hn : n ≤ 1000000000) :
    Calls Tryz.prog 71 #[.slice A n c, .func (.func g) #[] #[cv0]] w (Ret w (.int .i64 (idxA p L 0))) := by
  have hl : n ≤ L.length ∧ L.length ≤ n := by have := hA.len; omega
  have HP := Lib.hid hp; have HA := Lib.hid hA
  clear hp hA
  go_enter Tryz.func71, Tryz.ntmps71
  go_wp2
  go_loopw [8] (fun i wr => ∃ k : Nat, k ≤ n ∧ i = .int .i64 k ∧ Hid (idxA p L 0 = idxA p (L.drop k) k) ∧ Below w.heap.size w wr) (fun i _ => n - (intOf i).toNat)
  case atStart => exact ⟨0, by omega, rfl, Lib.hid rfl, Below.refl _ _⟩
  case round =>
    obtain ⟨k, hk, rfl, HI, hb⟩ := hrel
    by_cases hlt : k < n
    · obtain ⟨x, hx⟩ : ∃ x, L[k]? = some x := ⟨_, List.getElem?_eq_getElem (by omega)⟩
      obtain ⟨_, b, o, rfl, hcell⟩ := (HA.out.keep hb).at_ hx
      have hld := hdr_load wr b (o + k * 2) x hcell
      have hc := HP.out x (List.mem_of_getElem? hx) wr hb
      have hd : L.drop k = x :: L.drop (k + 1) := by
        obtain ⟨hl2, rfl⟩ := List.getElem?_eq_some_iff.1 hx
        exact List.drop_eq_getElem_cons hl2
      have HI2 := HI.out
      rw [hd, idxA] at HI2
      have HX := Lib.hid hcell
      clear hd hx HI hcell
      have HI := Lib.hid HI2
      clear HI2
      have hxv : x.val = x.val := rfl
      generalize x.val = xv at hld hc
      clear hxv
      cases hpx : p x
      all_goals
        rw [hpx] at hc HI
        have HC := Lib.hid hc
        clear hc hpx
        go_wp2_with (first | (refine wpList_load_addr rfl _ _ rfl ⟨b, o + k * 2, none⟩ xv rfl hld ?_) | (go_at_fn g; refine (HC.out).mono ?_; rintro e w2 ⟨rfl, hb2⟩))
      · refine ⟨⟨k + 1, by omega, by go_num, Lib.hid (by have := HI.out; simpa using this), bstep hb hb2⟩, by simp [intOf]; omega⟩
      · go_ret
        have := HI.out
        exact ⟨ret_int (by rw [this]; simp), bstep hb hb2⟩
    · have he : idxA p L 0 = -1 := by rw [HI.out, List.drop_eq_nil_of_le (by omega)]; rfl
      have HE := Lib.hid he
      clear he HI
      go_wp2
      go_ret
      exact ⟨ret_int HE.out.symm, hb⟩
end Go.Proofs.YtmlhecjhjjlhfaaGreatDoor
namespace Go.Proofs.YtmlhecjhjjlhfaaGreatDoor
open Go.RowKit Go.Sort
set_option linter.unusedVariables false
set_option linter.unusedSimpArgs false
set_option maxRecDepth 100000
def sepT (d : UInt8) (xs : List ByteArray) : ByteArray := ⟨(Lib.join (xs.map (·.data.toList)) [d]).toArray⟩
theorem sep_any (d : UInt8) (A : Option Addr) (n c : Nat) (ws : List ByteArray) (W : World) (base : Nat) (hown : W.ownsRow base 9 1 (.slice A n c) n (ws.map .string)) (hlen : (Lib.join (ws.map (·.data.toList)) [d]).length ≤ 140737488355328) (hn : n ≤ 1000000) :
    Calls Tryz.prog 75 #[.slice A n c, .string ⟨#[d]⟩] W (Ret W (.string (sepT d ws))) := by
  have hl : ws.length = n := by have := hown.1; simpa using this
  rcases hown.2 with ⟨h, h0⟩ | ⟨g', cap, cur, he, hb, hh, h1, h2, h3, h4⟩
  · injection h with e1 e2 e3
    subst e1
    subst h0
    obtain rfl : ws = [] := List.eq_nil_of_length_eq_zero hl
    refine (Tryz.strings_Join_none none c ⟨#[d]⟩ W).mono fun e w' ⟨h5, h6⟩ => ⟨?_, by rw [h6]; exact Below.refl _ _⟩
    rw [h5]
    rfl
  · injection he with e1 e2 e3
    subst e1; subst e3
    have hcells := World.ownsRow.cells hown (g := g') rfl
    have := Tryz.strings_Join g' 0 c ws ⟨#[d]⟩ W (by
      intro j x hx
      have h9 := hcells j (.string x) (by simp [hx])
      unfold Addr.add at h9
      split at h9 <;> simp_all) ((hown.lt g' rfl).2) (by omega) (by omega) hlen
    rw [hl] at this
    exact this
end Go.Proofs.YtmlhecjhjjlhfaaGreatDoor
namespace Go.Proofs.YtmlhecjhjjlhfaaGreatDoor
open Go.RowKit Go.Sort
set_option linter.unusedVariables false
set_option linter.unusedSimpArgs false
set_option maxRecDepth 100000
set_option maxHeartbeats 1000000 in
theorem indexFuncS0_any (g : Nat) (eg : ∀ args w, (callFunc g args).run Tryz.prog w = .ok (.enter g args) w) (p : ByteArray → Bool) (A : Option Addr) (n c : Nat) (xs : List ByteArray) (w : World)
    (hp : ∀ x ∈ xs, ∀ W, Below w.heap.size w W → Calls Tryz.prog g #[.string x] W (Ret W (.bool (p x)))) (hA : Reads w 1 A n (xs.map .string)) (hn : n ≤ 1000000000) :
    Calls Tryz.prog 76 #[.slice A n c, .func (.func g) #[] #[]] w (Ret w (.int .i64 (idxFrom p xs 0))) := by
  have hl : n ≤ xs.length ∧ xs.length ≤ n := by have := hA.1; simp at this; omega
  have HP := Lib.hid hp; have HA := Lib.hid hA
  clear hp hA
  go_enter Tryz.func76, Tryz.ntmps76
  go_wp2
  go_loopw [8] (fun i wr => ∃ k : Nat, k ≤ n ∧ i = .int .i64 k ∧ Hid (idxFrom p xs 0 = idxFrom p (xs.drop k) k) ∧ Below w.heap.size w wr) (fun i _ => n - (intOf i).toNat)
  case atStart => exact ⟨0, by omega, rfl, Lib.hid rfl, Below.refl _ _⟩
  case round =>
    obtain ⟨k, hk, rfl, HI, hb⟩ := hrel
    by_cases hlt : k < n
    · obtain ⟨pb, po, u, rfl, hu, hcell⟩ := (HA.out.keep hb).at_ hlt
      obtain ⟨x, hx, rfl⟩ := strs_at hu
      clear hu
      have hc := HP.out x (List.mem_of_getElem? hx) wr hb
      have hd : xs.drop k = x :: xs.drop (k + 1) := by
        obtain ⟨hl2, rfl⟩ := List.getElem?_eq_some_iff.1 hx
        exact List.drop_eq_getElem_cons hl2
      have HI2 := HI.out
      rw [hd, idxFrom] at HI2
      clear hd hx HI
      have HI := Lib.hid HI2
      clear HI2
      cases hpx : p x
      all_goals
        rw [hpx] at hc HI
        have HC := Lib.hid hc
        clear hc hpx
        go_wp2_with (go_at_fn g; refine (HC.out).mono ?_; rintro e w2 ⟨rfl, hb2⟩)
      · refine ⟨⟨k + 1, by omega, by go_num, Lib.hid (by have := HI.out; simpa using this), bstep hb hb2⟩, by simp [intOf]; omega⟩
      · go_ret
        have := HI.out
        exact ⟨ret_int (by rw [this]; simp), bstep hb hb2⟩
    · have he : idxFrom p xs 0 = -1 := by rw [HI.out, List.drop_eq_nil_of_le (by omega)]; rfl
      have HE := Lib.hid he
      clear he HI
      go_wp2
      go_ret
      exact ⟨ret_int HE.out.symm, hb⟩
theorem containsFuncS0_any (g : Nat) (eg : ∀ args w, (callFunc g args).run Tryz.prog w = .ok (.enter g args) w) (p : ByteArray → Bool) (A : Option Addr) (n c : Nat) (xs : List ByteArray) (w : World)
    (hp : ∀ x ∈ xs, ∀ W, Below w.heap.size w W → Calls Tryz.prog g #[.string x] W (Ret W (.bool (p x)))) (hA : Reads w 1 A n (xs.map .string)) (hn : n ≤ 1000000000) :
    Calls Tryz.prog 34 #[.slice A n c, .func (.func g) #[] #[]] w (Ret w (.bool (xs.any p))) := by
  rw [← idxFrom_any p xs 0]
  have H := Lib.hid (indexFuncS0_any g eg p A n c xs w hp hA hn)
  clear hp hA
  generalize idxFrom p xs 0 = r at H ⊢
  go_enter Tryz.func34, Tryz.ntmps34
  go_wp2_with (go_at_call 76; refine H.out.mono ?_; rintro e w2 ⟨rfl, hb2⟩)
  go_ret
  exact ⟨rfl, hb2⟩
set_option maxHeartbeats 1000000 in
theorem indexFuncS2_any (g : Nat) (eg : ∀ args w, (callFunc g args).run Tryz.prog w = .ok (.enter g args) w) (cv cv2 : Value) (p : ByteArray → Bool) (A : Option Addr) (n c : Nat) (xs : List ByteArray) (w : World)
    (hp : ∀ x ∈ xs, ∀ W, Below w.heap.size w W → Calls Tryz.prog g #[.string x, cv, cv2] W (Ret W (.bool (p x)))) (hA : Reads w 1 A n (xs.map .string)) (hn : n ≤ 1000000000) :
    Calls Tryz.prog 76 #[.slice A n c, .func (.func g) #[] #[cv, cv2]] w (Ret w (.int .i64 (idxFrom p xs 0))) := by
  have hl : n ≤ xs.length ∧ xs.length ≤ n := by have := hA.1; simp at this; omega
  have HP := Lib.hid hp; have HA := Lib.hid hA
  clear hp hA
  go_enter Tryz.func76, Tryz.ntmps76
  go_wp2
  go_loopw [8] (fun i wr => ∃ k : Nat, k ≤ n ∧ i = .int .i64 k ∧ Hid (idxFrom p xs 0 = idxFrom p (xs.drop k) k) ∧ Below w.heap.size w wr) (fun i _ => n - (intOf i).toNat)
  case atStart => exact ⟨0, by omega, rfl, Lib.hid rfl, Below.refl _ _⟩
  case round =>
    obtain ⟨k, hk, rfl, HI, hb⟩ := hrel
    by_cases hlt : k < n
    · obtain ⟨pb, po, u, rfl, hu, hcell⟩ := (HA.out.keep hb).at_ hlt
      obtain ⟨x, hx, rfl⟩ := strs_at hu
      clear hu
      have hc := HP.out x (List.mem_of_getElem? hx) wr hb
      have hd : xs.drop k = x :: xs.drop (k + 1) := by
        obtain ⟨hl2, rfl⟩ := List.getElem?_eq_some_iff.1 hx
        exact List.drop_eq_getElem_cons hl2
      have HI2 := HI.out
      rw [hd, idxFrom] at HI2
      clear hd hx HI
      have HI := Lib.hid HI2
      clear HI2
      cases hpx : p x
      all_goals
        rw [hpx] at hc HI
        have HC := Lib.hid hc
        clear hc hpx
        go_wp2_with (go_at_fn g; refine (HC.out).mono ?_; rintro e w2 ⟨rfl, hb2⟩)
      · refine ⟨⟨k + 1, by omega, by go_num, Lib.hid (by have := HI.out; simpa using this), bstep hb hb2⟩, by simp [intOf]; omega⟩
      · go_ret
        have := HI.out
        exact ⟨ret_int (by rw [this]; simp), bstep hb hb2⟩
    · have he : idxFrom p xs 0 = -1 := by rw [HI.out, List.drop_eq_nil_of_le (by omega)]; rfl
      have HE := Lib.hid he
      clear he HI
      go_wp2
      go_ret
      exact ⟨ret_int HE.out.symm, hb⟩
theorem containsFuncS2_any (g : Nat) (eg : ∀ args w, (callFunc g args).run Tryz.prog w = .ok (.enter g args) w) (cv cv2 : Value) (p : ByteArray → Bool) (A : Option Addr) (n c : Nat) (xs : List ByteArray) (w : World)
    (hp : ∀ x ∈ xs, ∀ W, Below w.heap.size w W → Calls Tryz.prog g #[.string x, cv, cv2] W (Ret W (.bool (p x)))) (hA : Reads w 1 A n (xs.map .string)) (hn : n ≤ 1000000000) :
    Calls Tryz.prog 34 #[.slice A n c, .func (.func g) #[] #[cv, cv2]] w (Ret w (.bool (xs.any p))) := by
  rw [← idxFrom_any p xs 0]
  have H := Lib.hid (indexFuncS2_any g eg cv cv2 p A n c xs w hp hA hn)
  clear hp hA
  generalize idxFrom p xs 0 = r at H ⊢
  go_enter Tryz.func34, Tryz.ntmps34
  go_wp2_with (go_at_call 76; refine H.out.mono ?_; rintro e w2 ⟨rfl, hb2⟩)
  go_ret
  exact ⟨rfl, hb2⟩
end Go.Proofs.YtmlhecjhjjlhfaaGreatDoor
