/- slices.IndexFunc and ContainsFunc over texts: a function with no captured value, with two. -/
import Derived.Test.YtjhlpkhfdghngaaGreatDoorGZ33
import Derived.Test.YtjhlpkhfdghngaaGreatDoorProg
import Derived.WalkKit
import Derived.WalkSpells
import Derived.WalkLawsBesides
import Derived.Below
import Derived.Deep.QuietTactic
import Derived.BigQuiet
import Derived.Lib.QuietBelow
import Derived.Lib.Strings
import Derived.Lib.Hide
import Derived.Deep.RegionWith
import Derived.Deep.RegionHeld3
import Derived.Lib.IndexBytes
namespace Go.Proofs.YtjhlpkhfdghngaaGreatDoor
open Go.RowKit Go.Sort
set_option linter.unusedVariables false
set_option linter.unusedSimpArgs false
set_option maxRecDepth 100000
set_option maxHeartbeats 1000000 in
theorem indexFuncS0_any (g : Nat) (eg : ∀ args w, (callFunc g args).run Tryz.prog w = .ok (.enter g args) w) (p : ByteArray → Bool) (A : Option Addr) (n c : Nat) (xs : List ByteArray) (w : World)
    (hp : ∀ x ∈ xs, ∀ W, Below w.heap.size w W → Calls Tryz.prog g #[.string x] W (Ret W (.bool (p x)))) (hA : Reads w 1 A n (xs.map .string)) (hn : n ≤ 1000000000) :
    Calls Tryz.prog 133 #[.slice A n c, .func (.func g) #[] #[]] w (Ret w (.int .i64 (idxFrom p xs 0))) := by
  have hl : n ≤ xs.length ∧ xs.length ≤ n := by have := hA.1; simp at this; omega
  have HP := Lib.hid hp; have HA := Lib.hid hA
  clear hp hA
  go_enter Tryz.func133, Tryz.ntmps133
  go_wp2
  go_loopw [8] (fun i wr => ∃ k : Nat, k ≤ n ∧ i = .int .i64 k ∧ Hid (idxFrom p xs 0 = idxFrom p (xs.drop k) k) ∧ Below w.heap.size w wr) (fun i _ => n - (intOf i).toNat)
  case atStart => exact ⟨0, by omega, rfl, Lib.hid rfl, Below.refl _ _⟩
  case round =>
    obtain ⟨k, hk, rfl, HI, hb⟩ := hrel
    by_cases hlt : k < n
    · obtain ⟨pb, po, u, rfl, hu, hcell⟩ := (HA.out.keep hb).at_ hlt
      obtain ⟨x, hx, rfl⟩ := strs_at hu
      clear hu
      have hc := HP.out x (List.mem_of_getElem? hx) wr hb
      have hd : xs.drop k = x :: xs.drop (k + 1) := by
        obtain ⟨hl2, rfl⟩ := List.getElem?_eq_some_iff.1 hx
        exact List.drop_eq_getElem_cons hl2
      have HI2 := HI.out
      rw [hd, idxFrom] at HI2
      clear hd hx HI
      have HI := Lib.hid HI2
      clear HI2
      cases hpx : p x
      all_goals
        rw [hpx] at hc HI
        have HC := Lib.hid hc
        clear hc hpx
        go_wp2_with (go_at_fn g; refine (HC.out).mono ?_; rintro e w2 ⟨rfl, hb2⟩)
      · refine ⟨⟨k + 1, by omega, by go_num, Lib.hid (by have := HI.out; simpa using this), bstep hb hb2⟩, by simp [intOf]; omega⟩
      · go_ret
        have := HI.out
        exact ⟨ret_int (by rw [this]; simp), bstep hb hb2⟩
    · have he : idxFrom p xs 0 = -1 := by rw [HI.out, List.drop_eq_nil_of_le (by omega)]; rfl
      have HE := Lib.hid he
      clear he HI
      go_wp2
      go_ret
      exact ⟨ret_int HE.out.symm, hb⟩
theorem containsFuncS0_any (g : Nat) (eg : ∀ args w, (callFunc g args).run Tryz.prog w = .ok (.enter g args) w) (p : ByteArray → Bool) (A : Option Addr) (n c : Nat) (xs : List ByteArray) (w : World)
    (hp : ∀ x ∈ xs, ∀ W, Below w.heap.size w W → Calls Tryz.prog g #[.string x] W (Ret W (.bool (p x)))) (hA : Reads w 1 A n (xs.map .string)) (hn : n ≤ 1000000000) :
    Calls Tryz.prog 69 #[.slice A n c, .func (.func g) #[] #[]] w (Ret w (.bool (xs.any p))) := by
  rw [← idxFrom_any p xs 0]
  have H := Lib.hid (indexFuncS0_any g eg p A n c xs w hp hA hn)
  clear hp hA
  generalize idxFrom p xs 0 = r at H ⊢
  go_enter Tryz.func69, Tryz.ntmps69
  go_wp2_with (go_at_call 133; refine H.out.mono ?_; rintro e w2 ⟨rfl, hb2⟩)
  go_ret
  exact ⟨rfl, hb2⟩
set_option maxHeartbeats 1000000 in
theorem indexFuncS2_any (g : Nat) (eg : ∀ args w, (callFunc g args).run Tryz.prog w = .ok (.enter g args) w) (cv cv2 : Value) (p : ByteArray → Bool) (A : Option Addr) (n c : Nat) (xs : List ByteArray) (w : World)
    (hp : ∀ x ∈ xs, ∀ W, Below w.heap.size w W → Calls Tryz.prog g #[.string x, cv, cv2] W (Ret W (.bool (p x)))) (hA : Reads w 1 A n (xs.map .string)) (hn : n ≤ 1000000000) :
    Calls Tryz.prog 133 #[.slice A n c, .func (.func g) #[] #[cv, cv2]] w (Ret w (.int .i64 (idxFrom p xs 0))) := by
  have hl : n ≤ xs.length ∧ xs.length ≤ n := by have := hA.1; simp at this; omega
  have HP := Lib.hid hp; have HA := Lib.hid hA
  clear hp hA
  go_enter Tryz.func133, Tryz.ntmps133
  go_wp2
  go_loopw [8] (fun i wr => ∃ k : Nat, k ≤ n ∧ i = .int .i64 k ∧ Hid (idxFrom p xs 0 = idxFrom p (xs.drop k) k) ∧ Below w.heap.size w wr) (fun i _ => n - (intOf i).toNat)
  case atStart => exact ⟨0, by omega, rfl, Lib.hid rfl, Below.refl _ _⟩
  case round =>
    obtain ⟨k, hk, rfl, HI, hb⟩ := hrel
    by_cases hlt : k < n
    · obtain ⟨pb, po, u, rfl, hu, hcell⟩ := (HA.out.keep hb).at_ hlt
      obtain ⟨x, hx, rfl⟩ := strs_at hu
      clear hu
      have hc := HP.out x (List.mem_of_getElem? hx) wr hb
      have hd : xs.drop k = x :: xs.drop (k + 1) := by
        obtain ⟨hl2, rfl⟩ := List.getElem?_eq_some_iff.1 hx
        exact List.drop_eq_getElem_cons hl2
      have HI2 := HI.out
      rw [hd, idxFrom] at HI2
      clear hd hx HI
      have HI := Lib.hid HI2
      clear HI2
      cases hpx : p x
      all_goals
        rw [hpx] at hc HI
        have HC := Lib.hid hc
        clear hc hpx
        go_wp2_with (go_at_fn g; refine (HC.out).mono ?_; rintro e w2 ⟨rfl, hb2⟩)
      · refine ⟨⟨k + 1, by omega, by go_num, Lib.hid (by have := HI.out; simpa using this), bstep hb hb2⟩, by simp [intOf]; omega⟩
      · go_ret
        have := HI.out
        exact ⟨ret_int (by rw [this]; simp), bstep hb hb2⟩
    · have he : idxFrom p xs 0 = -1 := by rw [HI.out, List.drop_eq_nil_of_le (by omega)]; rfl
      have HE := Lib.hid he
      clear he HI
      go_wp2
      go_ret
      exact ⟨ret_int HE.out.symm, hb⟩
theorem containsFuncS2_any (g : Nat) (eg : ∀ args w, (callFunc g args).run Tryz.prog w = .ok (.enter g args) w) (cv cv2 : Value) (p : ByteArray → Bool) (A : Option Addr) (n c : Nat) (xs : List ByteArray) (w : World)
    (hp : ∀ x ∈ xs, ∀ W, Below w.heap.size w W → Calls Tryz.prog g #[.string x, cv, cv2] W (Ret W (.bool (p x)))) (hA : Reads w 1 A n (xs.map .string)) (hn : n ≤ 1000000000) :
    Calls Tryz.prog 69 #[.slice A n c, .func (.func g) #[] #[cv, cv2]] w (Ret w (.bool (xs.any p))) := by
  rw [← idxFrom_any p xs 0]
  have H := Lib.hid (indexFuncS2_any g eg cv cv2 p A n c xs w hp hA hn)
  clear hp hA
  generalize idxFrom p xs 0 = r at H ⊢
  go_enter Tryz.func69, Tryz.ntmps69
  go_wp2_with (go_at_call 133; refine H.out.mono ?_; rintro e w2 ⟨rfl, hb2⟩)
  go_ret
  exact ⟨rfl, hb2⟩
end Go.Proofs.YtjhlpkhfdghngaaGreatDoor
