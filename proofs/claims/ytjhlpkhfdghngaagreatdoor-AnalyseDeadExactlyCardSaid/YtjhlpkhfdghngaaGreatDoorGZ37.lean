/- The reference's Matches and Choose. -/
import Derived.Test.YtjhlpkhfdghngaaGreatDoorGZ33
import Derived.Test.YtjhlpkhfdghngaaGreatDoorGZ25
import Derived.Test.YtjhlpkhfdghngaaGreatDoorGZ31
import Derived.Test.YtjhlpkhfdghngaaGreatDoorGZ14
import Derived.Test.YtjhlpkhfdghngaaGreatDoorGZ24
import Derived.Test.YtjhlpkhfdghngaaGreatDoorProg
import Derived.WalkKit
import Derived.WalkSpells
import Derived.WalkLawsBesides
import Derived.Below
import Derived.Deep.QuietTactic
import Derived.BigQuiet
import Derived.Lib.QuietBelow
import Derived.Lib.Strings
import Derived.Lib.Hide
import Derived.Deep.RegionWith
import Derived.Deep.RegionHeld3
import Derived.Lib.IndexBytes
import Derived.Test.YtjhlpkhfdghngaaGreatDoorGZ19
import Derived.Test.YtjhlpkhfdghngaaGreatDoorGZ29
import Derived.Test.YtjhlpkhfdghngaaGreatDoorGZ18
import Derived.Test.YtjhlpkhfdghngaaGreatDoorGZ16
import Derived.Test.YtjhlpkhfdghngaaGreatDoorGZ32
import Derived.Test.YtjhlpkhfdghngaaGreatDoorGZ34
import Derived.Test.YtjhlpkhfdghngaaGreatDoorGZ35
import Derived.Test.YtjhlpkhfdghngaaGreatDoorGZ30
import Derived.Test.YtjhlpkhfdghngaaGreatDoorGZ2
import Derived.Lib.SmallJoins
import Derived.Deep.Slices
import Derived.Deep.Fields
namespace Go.Proofs.YtjhlpkhfdghngaaGreatDoor
open Go.RowKit Go.Sort
set_option linter.unusedVariables false
set_option linter.unusedSimpArgs false
set_option maxRecDepth 100000
theorem all_step {α : Type} (p : α → Bool) (l : List α) (k : Nat) (x : α) (hx : l[k]? = some x) (hp : p x = true) : (l.drop k).all p = (l.drop (k + 1)).all p := by
  obtain ⟨hl2, rfl⟩ := List.getElem?_eq_some_iff.1 hx
  rw [List.drop_eq_getElem_cons hl2, List.all_cons, hp, Bool.true_and]
theorem all_stop {α : Type} (p : α → Bool) (l : List α) (k : Nat) (x : α) (hx : l[k]? = some x) (hp : p x = false) : (l.drop k).all p = false := by
  obtain ⟨hl2, rfl⟩ := List.getElem?_eq_some_iff.1 hx
  rw [List.drop_eq_getElem_cons hl2, List.all_cons, hp, Bool.false_and]
end Go.Proofs.YtjhlpkhfdghngaaGreatDoor
namespace Go.Proofs.YtjhlpkhfdghngaaGreatDoor
open Go.RowKit Go.Sort
set_option linter.unusedVariables false
set_option linter.unusedSimpArgs false
set_option maxRecDepth 100000
theorem idxA_any {α : Type} (p : α → Bool) : ∀ (l : List α) (k : Nat), decide (0 ≤ idxA p l k) = l.any p
  | [], _ => rfl
  | x :: r, k => by
    rw [idxA, List.any_cons]
    cases h : p x
    · rw [if_neg (by decide), idxA_any p r (k + 1), Bool.false_or]
    · rw [if_pos rfl, Bool.true_or]
      exact decide_eq_true (by omega)
theorem idxA_ge {α : Type} (p : α → Bool) : ∀ (l : List α) (k : Nat), -1 ≤ idxA p l k
  | [], _ => by rw [idxA]; omega
  | x :: r, k => by
    rw [idxA]
    split
    · omega
    · exact idxA_ge p r (k + 1)
set_option maxHeartbeats 2000000 in
theorem indexFuncRU0_any (g : Nat) (eg : ∀ args w, (callFunc g args).run Tryz.prog w = .ok (.enter g args) w) (p : RuleM → Bool) (A : Option Addr) (n c : Nat) (L : List RuleM) (w : World)
    (hp : ∀ x ∈ L, ∀ W, Below w.heap.size w W → Calls Tryz.prog g #[x.val] W (Ret W (.bool (p x)))) (hA : RulesRead w A n L) (hn : n ≤ 1000000000) :
    Calls Tryz.prog 84 #[.slice A n c, .func (.func g) #[] #[]] w (Ret w (.int .i64 (idxA p L 0))) := by
  have hl : n ≤ L.length ∧ L.length ≤ n := by have := hA.len; omega
  have HP := Lib.hid hp; have HA := Lib.hid hA
  clear hp hA
  go_enter Tryz.func84, Tryz.ntmps84
  go_wp2
  go_loopw [8] (fun i wr => ∃ k : Nat, k ≤ n ∧ i = .int .i64 k ∧ Hid (idxA p L 0 = idxA p (L.drop k) k) ∧ Below w.heap.size w wr) (fun i _ => n - (intOf i).toNat)
  case atStart => exact ⟨0, by omega, rfl, Lib.hid rfl, Below.refl _ _⟩
  case round =>
    obtain ⟨k, hk, rfl, HI, hb⟩ := hrel
    by_cases hlt : k < n
    · obtain ⟨x, hx⟩ : ∃ x, L[k]? = some x := ⟨_, List.getElem?_eq_getElem (by omega)⟩
      obtain ⟨_, b, o, rfl, hcell⟩ := (HA.out.keep hb).at_ hx
      have hld := rule_load wr b (o + k * 18) x hcell
      have hc := HP.out x (List.mem_of_getElem? hx) wr hb
      have hd : L.drop k = x :: L.drop (k + 1) := by
        obtain ⟨hl2, rfl⟩ := List.getElem?_eq_some_iff.1 hx
        exact List.drop_eq_getElem_cons hl2
      have HI2 := HI.out
      rw [hd, idxA] at HI2
      have HX := Lib.hid hcell
      clear hd hx HI hcell
      have HI := Lib.hid HI2
      clear HI2
      have hxv : x.val = x.val := rfl
      generalize x.val = xv at hld hc
      clear hxv
      cases hpx : p x
      all_goals
        rw [hpx] at hc HI
        have HC := Lib.hid hc
        clear hc hpx
        go_wp2_with (first | (refine wpList_load_addr rfl _ _ rfl ⟨b, o + k * 18, none⟩ xv rfl hld ?_) | (go_at_fn g; refine (HC.out).mono ?_; rintro e w2 ⟨rfl, hb2⟩))
      · refine ⟨⟨k + 1, by omega, by go_num, Lib.hid (by have := HI.out; simpa using this), bstep hb hb2⟩, by simp [intOf]; omega⟩
      · go_ret
        have := HI.out
        exact ⟨ret_int (by rw [this]; simp), bstep hb hb2⟩
    · have he : idxA p L 0 = -1 := by rw [HI.out, List.drop_eq_nil_of_le (by omega)]; rfl
      have HE := Lib.hid he
      clear he HI
      go_wp2
      go_ret
      exact ⟨ret_int HE.out.symm, hb⟩
theorem containsFuncRU0_any (g : Nat) (eg : ∀ args w, (callFunc g args).run Tryz.prog w = .ok (.enter g args) w) (p : RuleM → Bool) (A : Option Addr) (n c : Nat) (L : List RuleM) (w : World)
    (hp : ∀ x ∈ L, ∀ W, Below w.heap.size w W → Calls Tryz.prog g #[x.val] W (Ret W (.bool (p x)))) (hA : RulesRead w A n L) (hn : n ≤ 1000000000) :
    Calls Tryz.prog 144 #[.slice A n c, .func (.func g) #[] #[]] w (Ret w (.bool (L.any p))) := by
  rw [← idxA_any p L 0]
  have H := Lib.hid (indexFuncRU0_any g eg  p A n c L w hp hA hn)
  clear hp hA
  generalize idxA p L 0 = r at H ⊢
  go_enter Tryz.func144, Tryz.ntmps144
  go_wp2_with (go_at_call 84; refine H.out.mono ?_; rintro e w2 ⟨rfl, hb2⟩)
  go_ret
  exact ⟨rfl, hb2⟩
set_option maxHeartbeats 2000000 in
theorem indexFuncVA0_any (g : Nat) (eg : ∀ args w, (callFunc g args).run Tryz.prog w = .ok (.enter g args) w) (p : VaryM → Bool) (A : Option Addr) (n c : Nat) (L : List VaryM) (w : World)
    (hp : ∀ x ∈ L, ∀ W, Below w.heap.size w W → Calls Tryz.prog g #[x.val] W (Ret W (.bool (p x)))) (hA : VarysRead w A n L) (hn : n ≤ 1000000000) :
    Calls Tryz.prog 261 #[.slice A n c, .func (.func g) #[] #[]] w (Ret w (.int .i64 (idxA p L 0))) := by
  have hl : n ≤ L.length ∧ L.length ≤ n := by have := hA.len; omega
  have HP := Lib.hid hp; have HA := Lib.hid hA
  clear hp hA
  go_enter Tryz.func261, Tryz.ntmps261
  go_wp2
  go_loopw [8] (fun i wr => ∃ k : Nat, k ≤ n ∧ i = .int .i64 k ∧ Hid (idxA p L 0 = idxA p (L.drop k) k) ∧ Below w.heap.size w wr) (fun i _ => n - (intOf i).toNat)
  case atStart => exact ⟨0, by omega, rfl, Lib.hid rfl, Below.refl _ _⟩
  case round =>
    obtain ⟨k, hk, rfl, HI, hb⟩ := hrel
    by_cases hlt : k < n
    · obtain ⟨x, hx⟩ : ∃ x, L[k]? = some x := ⟨_, List.getElem?_eq_getElem (by omega)⟩
      obtain ⟨_, b, o, rfl, hcell⟩ := (HA.out.keep hb).at_ hx
      have hld := varyA_load wr b (o + k * 3) x hcell
      have hc := HP.out x (List.mem_of_getElem? hx) wr hb
      have hd : L.drop k = x :: L.drop (k + 1) := by
        obtain ⟨hl2, rfl⟩ := List.getElem?_eq_some_iff.1 hx
        exact List.drop_eq_getElem_cons hl2
      have HI2 := HI.out
      rw [hd, idxA] at HI2
      have HX := Lib.hid hcell
      clear hd hx HI hcell
      have HI := Lib.hid HI2
      clear HI2
      have hxv : x.val = x.val := rfl
      generalize x.val = xv at hld hc
      clear hxv
      cases hpx : p x
      all_goals
        rw [hpx] at hc HI
        have HC := Lib.hid hc
        clear hc hpx
        go_wp2_with (first | (refine wpList_load_addr rfl _ _ rfl ⟨b, o + k * 3, none⟩ xv rfl hld ?_) | (go_at_fn g; refine (HC.out).mono ?_; rintro e w2 ⟨rfl, hb2⟩))
      · refine ⟨⟨k + 1, by omega, by go_num, Lib.hid (by have := HI.out; simpa using this), bstep hb hb2⟩, by simp [intOf]; omega⟩
      · go_ret
        have := HI.out
        exact ⟨ret_int (by rw [this]; simp), bstep hb hb2⟩
    · have he : idxA p L 0 = -1 := by rw [HI.out, List.drop_eq_nil_of_le (by omega)]; rfl
      have HE := Lib.hid he
      clear he HI
      go_wp2
      go_ret
      exact ⟨ret_int HE.out.symm, hb⟩
theorem containsFuncVA0_any (g : Nat) (eg : ∀ args w, (callFunc g args).run Tryz.prog w = .ok (.enter g args) w) (p : VaryM → Bool) (A : Option Addr) (n c : Nat) (L : List VaryM) (w : World)
    (hp : ∀ x ∈ L, ∀ W, Below w.heap.size w W → Calls Tryz.prog g #[x.val] W (Ret W (.bool (p x)))) (hA : VarysRead w A n L) (hn : n ≤ 1000000000) :
    Calls Tryz.prog 215 #[.slice A n c, .func (.func g) #[] #[]] w (Ret w (.bool (L.any p))) := by
  rw [← idxA_any p L 0]
  have H := Lib.hid (indexFuncVA0_any g eg  p A n c L w hp hA hn)
  clear hp hA
  generalize idxA p L 0 = r at H ⊢
  go_enter Tryz.func215, Tryz.ntmps215
  go_wp2_with (go_at_call 261; refine H.out.mono ?_; rintro e w2 ⟨rfl, hb2⟩)
  go_ret
  exact ⟨rfl, hb2⟩
set_option maxHeartbeats 2000000 in
theorem indexFuncVA1_any (g : Nat) (eg : ∀ args w, (callFunc g args).run Tryz.prog w = .ok (.enter g args) w) (cv0 : Value) (p : VaryM → Bool) (A : Option Addr) (n c : Nat) (L : List VaryM) (w : World)
    (hp : ∀ x ∈ L, ∀ W, Below w.heap.size w W → Calls Tryz.prog g #[x.val, cv0] W (Ret W (.bool (p x)))) (hA : VarysRead w A n L) (hn : n ≤ 1000000000) :
    Calls Tryz.prog 261 #[.slice A n c, .func (.func g) #[] #[cv0]] w (Ret w (.int .i64 (idxA p L 0))) := by
  have hl : n ≤ L.length ∧ L.length ≤ n := by have := hA.len; omega
  have HP := Lib.hid hp; have HA := Lib.hid hA
  clear hp hA
  go_enter Tryz.func261, Tryz.ntmps261
  go_wp2
  go_loopw [8] (fun i wr => ∃ k : Nat, k ≤ n ∧ i = .int .i64 k ∧ Hid (idxA p L 0 = idxA p (L.drop k) k) ∧ Below w.heap.size w wr) (fun i _ => n - (intOf i).toNat)
  case atStart => exact ⟨0, by omega, rfl, Lib.hid rfl, Below.refl _ _⟩
  case round =>
    obtain ⟨k, hk, rfl, HI, hb⟩ := hrel
    by_cases hlt : k < n
    · obtain ⟨x, hx⟩ : ∃ x, L[k]? = some x := ⟨_, List.getElem?_eq_getElem (by omega)⟩
      obtain ⟨_, b, o, rfl, hcell⟩ := (HA.out.keep hb).at_ hx
      have hld := varyA_load wr b (o + k * 3) x hcell
      have hc := HP.out x (List.mem_of_getElem? hx) wr hb
      have hd : L.drop k = x :: L.drop (k + 1) := by
        obtain ⟨hl2, rfl⟩ := List.getElem?_eq_some_iff.1 hx
        exact List.drop_eq_getElem_cons hl2
      have HI2 := HI.out
      rw [hd, idxA] at HI2
      have HX := Lib.hid hcell
      clear hd hx HI hcell
      have HI := Lib.hid HI2
      clear HI2
      have hxv : x.val = x.val := rfl
      generalize x.val = xv at hld hc
      clear hxv
      cases hpx : p x
      all_goals
        rw [hpx] at hc HI
        have HC := Lib.hid hc
        clear hc hpx
        go_wp2_with (first | (refine wpList_load_addr rfl _ _ rfl ⟨b, o + k * 3, none⟩ xv rfl hld ?_) | (go_at_fn g; refine (HC.out).mono ?_; rintro e w2 ⟨rfl, hb2⟩))
      · refine ⟨⟨k + 1, by omega, by go_num, Lib.hid (by have := HI.out; simpa using this), bstep hb hb2⟩, by simp [intOf]; omega⟩
      · go_ret
        have := HI.out
        exact ⟨ret_int (by rw [this]; simp), bstep hb hb2⟩
    · have he : idxA p L 0 = -1 := by rw [HI.out, List.drop_eq_nil_of_le (by omega)]; rfl
      have HE := Lib.hid he
      clear he HI
      go_wp2
      go_ret
      exact ⟨ret_int HE.out.symm, hb⟩
end Go.Proofs.YtjhlpkhfdghngaaGreatDoor
namespace Go.Proofs.YtjhlpkhfdghngaaGreatDoor
open Go.RowKit Go.Sort
set_option linter.unusedVariables false
set_option linter.unusedSimpArgs false
set_option maxRecDepth 100000
def fewVy (v : VaryV) : Bool := decide (v.header.size ≤ 200) && decide (v.dflt.size ≤ 200) && decide (v.values.length ≤ 10) && v.values.all (fun x => decide (x.size ≤ 200))
def fewCR (c : CondV) : Bool := fewC c.cl.length c.co.length c.si.length c.pat c.cl c.co
def fewR (r : RuleV) : Bool := decide (r.name.size ≤ 200) && decide (r.pat.size ≤ 200) && decide (r.prog.size ≤ 200) && decide (r.tags.length ≤ 10) && decide (r.vary.length ≤ 10) && fewCR r.allow && r.tags.all (fun x => decide (x.size ≤ 200)) && r.vary.all fewVy
end Go.Proofs.YtjhlpkhfdghngaaGreatDoor
namespace Go.Proofs.YtjhlpkhfdghngaaGreatDoor
open Go.RowKit Go.Sort
set_option linter.unusedVariables false
set_option linter.unusedSimpArgs false
set_option maxRecDepth 100000
theorem VBox.facts {w : World} {g : Nat} {c : CondV} {m : CondMem} (h : VBox w g c m) :
    w.cell? ⟨g, 0, none⟩ = some (.int .i64 c.fr) ∧ w.cell? ⟨g, 1, none⟩ = some (.int .i64 c.till) ∧ w.cell? ⟨g, 2, none⟩ = some (.string c.pat) ∧ w.cell? ⟨g, 3, none⟩ = some (.slice m.A c.cl.length m.ca) ∧ w.cell? ⟨g, 4, none⟩ = some (.slice m.B c.co.length m.cb) ∧ w.cell? ⟨g, 5, none⟩ = some (.slice m.S c.si.length m.cs) ∧ w.cell? ⟨g, 6, none⟩ = some (.int .i64 c.us) := CBox.facts h
theorem VBox.keep {w w' : World} {g : Nat} {c : CondV} {m : CondMem} (h : VBox w g c m) (hb : Below w.heap.size w w') : VBox w' g c m := Blk.keep h hb
def YBox (w : World) (g : Nat) (q : AskV) : Prop := ABox w g q.addr q.client q.country q.site q.lo q.hi
theorem YBox.facts {w : World} {g : Nat} {q : AskV} (h : YBox w g q) :
    w.cell? ⟨g, 0, none⟩ = some (.string q.addr) ∧ w.cell? ⟨g, 1, none⟩ = some (.string q.client) ∧ w.cell? ⟨g, 2, none⟩ = some (.string q.country) ∧ w.cell? ⟨g, 3, none⟩ = some (.int .i64 q.site) ∧ w.cell? ⟨g, 4, none⟩ = some (.int .i64 q.lo) ∧ w.cell? ⟨g, 5, none⟩ = some (.int .i64 q.hi) := ABox.facts h
theorem YBox.keep {w w' : World} {g : Nat} {q : AskV} (h : YBox w g q) (hb : Below w.heap.size w w') : YBox w' g q := Blk.keep h hb
end Go.Proofs.YtjhlpkhfdghngaaGreatDoor
namespace Go.Proofs.YtjhlpkhfdghngaaGreatDoor
open Go.RowKit Go.Sort
set_option linter.unusedVariables false
set_option linter.unusedSimpArgs false
set_option maxRecDepth 100000
def KB (w : World) (g : Nat) (b : Bool) (e : Int) : Prop := Blk w g 153 #[.bool b, .int .i64 e] (0, 0)
theorem KB.facts {w : World} {g : Nat} {b : Bool} {e : Int} (h : KB w g b e) : w.cell? ⟨g, 0, none⟩ = some (.bool b) ∧ w.cell? ⟨g, 1, none⟩ = some (.int .i64 e) := ⟨Blk.cell h 0, Blk.cell h 1⟩
theorem KB.keep {w w' : World} {g : Nat} {b : Bool} {e : Int} (h : KB w g b e) (hb : Below w.heap.size w w') : KB w' g b e := Blk.keep h hb
def WB (w : World) (g : Nat) (s : ByteArray) (e : Int) : Prop := Blk w g 193 #[.string s, .int .i64 e] (0, 0)
theorem WB.facts {w : World} {g : Nat} {s : ByteArray} {e : Int} (h : WB w g s e) : w.cell? ⟨g, 0, none⟩ = some (.string s) ∧ w.cell? ⟨g, 1, none⟩ = some (.int .i64 e) := ⟨Blk.cell h 0, Blk.cell h 1⟩
theorem WB.keep {w w' : World} {g : Nat} {s : ByteArray} {e : Int} (h : WB w g s e) (hb : Below w.heap.size w w') : WB w' g s e := Blk.keep h hb
end Go.Proofs.YtjhlpkhfdghngaaGreatDoor
namespace Go.Proofs.YtjhlpkhfdghngaaGreatDoor
open Go.RowKit Go.Sort
set_option linter.unusedVariables false
set_option linter.unusedSimpArgs false
set_option maxRecDepth 100000
theorem cellsS : Tryz.prog.cellsOf 9 = 1 := by kernel_rfl
theorem list_of {α : Type} {p : Nat → α → Prop} : ∀ n : Nat, (∀ i, i < n → ∃ x, p i x) → ∃ l : List α, l.length = n ∧ ∀ i x, l[i]? = some x → p i x
  | 0, _ => ⟨[], rfl, fun i x h => by simp at h⟩
  | n + 1, h => by
    obtain ⟨l, h1, h2⟩ := list_of n (fun i hi => h i (by omega))
    obtain ⟨x, hx⟩ := h n (by omega)
    refine ⟨l ++ [x], by simp [h1], fun i y hy => ?_⟩
    rw [List.getElem?_append] at hy
    split at hy
    · exact h2 i y hy
    · rename_i hn
      have hlt := (List.getElem?_eq_some_iff.1 hy).1
      simp at hlt
      have : i = n := by omega
      subst this
      rw [h1] at hy
      simp at hy
      subst hy
      exact hx
theorem plain_addr {w : World} {a : Addr} {v : Value} (h : w.cell? (a.add 0) = some v) : ∃ b o, a = ⟨b, o, none⟩ := by
  obtain ⟨b, o, s⟩ := a
  refine ⟨b, o, ?_⟩
  have e : (⟨b, o, s⟩ : Addr).add 0 = ⟨b, o, s⟩ := by simp [Addr.add]
  rw [e] at h
  cases s with
  | none => rfl
  | some s =>
    unfold World.cell? at h
    split at h <;> simp at h
theorem add_plain (b o j : Nat) : (⟨b, o, none⟩ : Addr).add j = ⟨b, o + j, none⟩ := by
  unfold Addr.add; split <;> simp_all
section
variable {H : Type} {enc : TypeId × Value → H} {W : World} {base : Nat} {sp : Nat → Bool} {hd : Bool}
theorem strs_reads {fuel : Nat} {v : Value} {x : DataW H × List MemPlace} (h : DataW.trod enc Tryz.prog W base sp hd fuel 27 [v] = some x) : ∃ (A : Option Addr) (n c : Nat) (xs : List ByteArray), v = .slice A n c ∧ xs.length = n ∧ Reads W 1 A n (xs.map .string) := by
  rcases Go.Deep.open_slice Tryz.underlying27 h with ⟨h0, _⟩ | ⟨a, len, cap, m, n, D, Pl, hcs, hb, hl, hm, hmm, hx, hi⟩
  · injection h0 with h0
    subst h0
    exact ⟨none, 0, 0, [], rfl, rfl, Reads.nil_ _ _ _⟩
  · injection hcs with hcs
    subst hcs
    have hlm : len ≤ m := by rw [hmm]; split <;> omega
    obtain ⟨xs, h1, h2⟩ := list_of (p := fun i (s : ByteArray) => W.cell? (a.add i) = some (.string s)) len (fun i hil => by
      obtain ⟨cs', hc, ht⟩ := hi i (by omega)
      rw [cellsS, Nat.mul_one] at hc
      obtain ⟨s, rfl, _, hs⟩ := DataW.trod_string Tryz.underlying9 ht
      have := (World.cells?_some hc).2.2 0 (by omega)
      exact ⟨s, by simpa [Addr.add] using this⟩)
    refine ⟨some a, len, cap, xs, rfl, h1, ⟨by simp [h1], fun hn => ?_⟩⟩
    obtain ⟨s0, hs0⟩ : ∃ s, xs[0]? = some s := ⟨_, List.getElem?_eq_getElem (by omega)⟩
    obtain ⟨b, o, rfl⟩ := plain_addr (h2 0 s0 hs0)
    refine ⟨b, o, rfl, fun j u hu => ?_⟩
    obtain ⟨s, hs, rfl⟩ := strs_at hu
    rw [← add_plain]
    exact h2 j s hs
end
end Go.Proofs.YtjhlpkhfdghngaaGreatDoor
