/- Whether a rule matches; which rule counts. -/
import Derived.Test.YtdlbfjoemabfpaaGreatDoorEZ14
import Derived.Test.YtdlbfjoemabfpaaGreatDoorEZ11
import Derived.Test.YtdlbfjoemabfpaaGreatDoorEZ9
import Derived.Test.YtdlbfjoemabfpaaGreatDoorEZ2
import Derived.Test.YtdlbfjoemabfpaaGreatDoorProg
import Derived.WalkKit
import Derived.WalkSpells
import Derived.WalkLawsBesides
import Derived.Below
import Derived.Deep.QuietTactic
import Derived.BigQuiet
import Derived.Lib.QuietBelow
import Derived.Lib.Strings
import Derived.Lib.Hide
import Derived.Deep.RegionWith
import Derived.Deep.RegionHeld3
import Derived.Lib.IndexBytes
import Derived.Laws.EntriesVeiled
import Derived.Test.YtdlbfjoemabfpaaGreatDoorEZ1
import Derived.LoopTactic
namespace Go.Proofs.YtdlbfjoemabfpaaGreatDoor
open Go.RowKit Go.Sort
set_option linter.unusedVariables false
set_option linter.unusedSimpArgs false
set_option maxRecDepth 100000
theorem matches1_any (t tags : ByteArray) (b : Nat) (w : World) (hc : w.cell? ⟨b, 0, none⟩ = some (.string tags)) (hs : tags.size ≤ 100000) (hE : Env w) : Calls Tryz.prog 67 #[.string t, .pointer (some ⟨b, 0, none⟩)] w (Ret w (.bool (!hasTagB tags t))) := by
  have HH := Lib.hid (hasTag_any tags t w hs hE)
  clear hE
  generalize hasTagB tags t = v at *
  go_enter Tryz.func67, Tryz.ntmps67
  go_wp2_with (go_at_call 68; refine HH.out.mono ?_; rintro e w2 ⟨rfl, hb2⟩)
  go_ret
  exact ⟨rfl, hb2⟩
set_option maxHeartbeats 1000000 in
theorem indexFuncC_any (g : Nat) (eg : ∀ args w, (callFunc g args).run Tryz.prog w = .ok (.enter g args) w) (cv : Value) (p : ByteArray → Bool) (A : Option Addr) (n c : Nat) (xs : List ByteArray) (w : World)
    (hp : ∀ x ∈ xs, ∀ W, Below w.heap.size w W → Calls Tryz.prog g #[.string x, cv] W (Ret W (.bool (p x)))) (hA : Reads w 1 A n (xs.map .string)) (hn : n ≤ 1000000000) :
    Calls Tryz.prog 115 #[.slice A n c, .func (.func g) #[] #[cv]] w (Ret w (.int .i64 (idxFrom p xs 0))) := by
  have hl : n ≤ xs.length ∧ xs.length ≤ n := by have := hA.1; simp at this; omega
  have HP := Lib.hid hp; have HA := Lib.hid hA
  clear hp hA
  go_enter Tryz.func115, Tryz.ntmps115
  go_wp2
  go_loopw [8] (fun i wr => ∃ k : Nat, k ≤ n ∧ i = .int .i64 k ∧ Hid (idxFrom p xs 0 = idxFrom p (xs.drop k) k) ∧ Below w.heap.size w wr) (fun i _ => n - (intOf i).toNat)
  case atStart => exact ⟨0, by omega, rfl, Lib.hid rfl, Below.refl _ _⟩
  case round =>
    obtain ⟨k, hk, rfl, HI, hb⟩ := hrel
    by_cases hlt : k < n
    · obtain ⟨pb, po, u, rfl, hu, hcell⟩ := (HA.out.keep hb).at_ hlt
      obtain ⟨x, hx, rfl⟩ := strs_at hu
      clear hu
      have hc := HP.out x (List.mem_of_getElem? hx) wr hb
      have hd : xs.drop k = x :: xs.drop (k + 1) := by
        obtain ⟨hl2, rfl⟩ := List.getElem?_eq_some_iff.1 hx
        exact List.drop_eq_getElem_cons hl2
      have HI2 := HI.out
      rw [hd, idxFrom] at HI2
      clear hd hx HI
      have HI := Lib.hid HI2
      clear HI2
      cases hpx : p x
      all_goals
        rw [hpx] at hc HI
        have HC := Lib.hid hc
        clear hc hpx
        go_wp2_with (go_at_fn g; refine (HC.out).mono ?_; rintro e w2 ⟨rfl, hb2⟩)
      · refine ⟨⟨k + 1, by omega, by go_num, Lib.hid (by have := HI.out; simpa using this), bstep hb hb2⟩, by simp [intOf]; omega⟩
      · go_ret
        have := HI.out
        exact ⟨ret_int (by rw [this]; simp), bstep hb hb2⟩
    · have he : idxFrom p xs 0 = -1 := by rw [HI.out, List.drop_eq_nil_of_le (by omega)]; rfl
      have HE := Lib.hid he
      clear he HI
      go_wp2
      go_ret
      exact ⟨ret_int HE.out.symm, hb⟩
theorem containsFuncC_any (g : Nat) (eg : ∀ args w, (callFunc g args).run Tryz.prog w = .ok (.enter g args) w) (cv : Value) (p : ByteArray → Bool) (A : Option Addr) (n c : Nat) (xs : List ByteArray) (w : World)
    (hp : ∀ x ∈ xs, ∀ W, Below w.heap.size w W → Calls Tryz.prog g #[.string x, cv] W (Ret W (.bool (p x)))) (hA : Reads w 1 A n (xs.map .string)) (hn : n ≤ 1000000000) :
    Calls Tryz.prog 66 #[.slice A n c, .func (.func g) #[] #[cv]] w (Ret w (.bool (xs.any p))) := by
  rw [← idxFrom_any p xs 0]
  have H := Lib.hid (indexFuncC_any g eg cv p A n c xs w hp hA hn)
  clear hp hA
  generalize idxFrom p xs 0 = r at H ⊢
  go_enter Tryz.func66, Tryz.ntmps66
  go_wp2_with (go_at_call 115; refine H.out.mono ?_; rintro e w2 ⟨rfl, hb2⟩)
  go_ret
  exact ⟨rfl, hb2⟩
def mtX (r : RuleV) (a t : ByteArray) : Bool := matchB r.pat a && r.tags.all (hasTagB t)
theorem any_not {α : Type} (p : α → Bool) : ∀ l : List α, (!l.any fun x => !p x) = l.all p
  | [] => rfl
  | x :: l => by
    have := any_not p l
    simp only [List.any_cons, List.all_cons, Bool.not_or, Bool.not_not, this]
set_option maxHeartbeats 4000000 in
theorem matches_any (x : RuleM) (a t : ByteArray) (w : World) (hR : RuleReads w x) (hp : x.r.pat.size ≤ 100000) (hn : x.r.tags.length ≤ 1000) (ha : a.size ≤ 100000) (ht : t.size ≤ 100000) (hE : Env w) :
    Calls Tryz.prog 18 #[x.val, .string a, .string t] w (Ret w (.bool (mtX x.r a t))) := by
  have cM := fun (W : World) (hb : Below w.heap.size w W) => match_any x.r.pat a W hp ha (Env.keep hE hb)
  have hb0 : ∀ W (hb : Below w.heap.size w W) (b : Nat), W.cell? ⟨b, 0, none⟩ = some (.string t) → Calls Tryz.prog 66 #[.slice x.T x.r.tags.length x.ct, .func (.func 67) #[] #[.pointer (some ⟨b, 0, none⟩)]] W (Ret W (.bool (x.r.tags.any fun y => !hasTagB t y))) := fun W hb b hc =>
    containsFuncC_any 67 (enters_of Tryz.func67 (by kernel_rfl) rfl) (.pointer (some ⟨b, 0, none⟩)) (fun y => !hasTagB t y) x.T x.r.tags.length x.ct x.r.tags W (fun y hy W' hb' => matches1_any y t b W' (cell_keep hb' hc) ht (Env.keep hE (bstep hb hb'))) (hR.tags.keep hb) (by omega)
  have hv : mtX x.r a t = (matchB x.r.pat a && !(x.r.tags.any fun y => !hasTagB t y)) := by unfold mtX; rw [any_not]
  rw [hv]
  generalize (x.r.tags.any fun y => !hasTagB t y) = b2 at *
  generalize matchB x.r.pat a = b1 at *
  have hmf : ∀ (fn : Fn) (first cap : Array Value) (w : World), (Instr.makeFunc fn first cap).run Tryz.prog w = .ok (.func fn first cap) w := fun _ _ _ _ => rfl
  have HM := Lib.hid cM; have HC := Lib.hid hb0
  clear cM hb0 hv hR hE
  rw [RuleM.val_eq]
  cases b1
  · rw [Bool.false_and]
    go_enter Tryz.func18, Tryz.ntmps18
    go_wp2_with (go_at_call 65; refine (HM.out _ belB).mono ?_; rintro e w2 ⟨rfl, hb2⟩)
    go_ret
    exact ⟨rfl, belB⟩
  · rw [Bool.true_and]
    go_enter Tryz.func18, Tryz.ntmps18
    go_wp2_with (first | (go_at_call 65; refine (HM.out _ belB).mono ?_; rintro e w2 ⟨rfl, hb2⟩; have y2 := cell_keep hb2 (alloc2_cell w _ _ _ (k := 2) rfl); have y9 : w2.cell? ⟨w.heap.size + 1, 0, none⟩ = some (.string t) := cell_keep hb2 ((cell_of_row _ _ 0 _ _ _ (heap_alloc2_new w _ _)).trans rfl)) | (go_at_call 66; refine (HC.out _ belB _ y9).mono ?_; rintro e w3 ⟨rfl, hb3⟩))
    go_ret
    exact ⟨rfl, belB⟩
end Go.Proofs.YtdlbfjoemabfpaaGreatDoor
namespace Go.Proofs.YtdlbfjoemabfpaaGreatDoor
open Go.RowKit Go.Sort
set_option linter.unusedVariables false
set_option linter.unusedSimpArgs false
set_option maxRecDepth 100000
section
variable {P : Program}
theorem wpList_load_addr {ops : Array Oper} {rest : List Oper} {o : Oper} {a : Act} {w : World} {Q : Exit → Act → World → Prop} (hgd : o.guard = none) (ty : TypeId) (x : Operand) (ho : o.op = .load ty x)
    (ad : Addr) (v : Value) (hx : a.eval x = .pointer (some ad)) (hl : (loadVar ty ad).run P w = .ok v w)
    (h : wpList P ops Q rest (a.put o.dst v) w) : wpList P ops Q (o :: rest) a w := by
  refine wpList_plain hgd fun K hK => ?_
  unfold Oper.wp execOp
  simp only [ho, hx, Instr.loadAt, Instr.sureAddr, Sem.run_bind, Sem.run_pure, Result.andThen_ok, hl]
  exact hK _ _ h
end
end Go.Proofs.YtdlbfjoemabfpaaGreatDoor
namespace Go.Proofs.YtdlbfjoemabfpaaGreatDoor
open Go.RowKit Go.Sort
set_option linter.unusedVariables false
set_option linter.unusedSimpArgs false
set_option maxRecDepth 100000
def idxA {α : Type} (p : α → Bool) : List α → Nat → Int
  | [], _ => -1
  | x :: r, k => if p x then k else idxA p r (k + 1)
theorem choose1_any (x : RuleM) (a t : ByteArray) (b b2 : Nat) (w : World) (hR : RuleReads w x) (hc : w.cell? ⟨b, 0, none⟩ = some (.string a)) (hc2 : w.cell? ⟨b2, 0, none⟩ = some (.string t)) (hp : x.r.pat.size ≤ 100000) (hn : x.r.tags.length ≤ 1000) (ha : a.size ≤ 100000) (ht : t.size ≤ 100000) (hE : Env w) :
    Calls Tryz.prog 72 #[x.val, .pointer (some ⟨b, 0, none⟩), .pointer (some ⟨b2, 0, none⟩)] w (Ret w (.bool (mtX x.r a t))) := by
  have hm := fun W (hb : Below w.heap.size w W) => matches_any x a t W (hR.keep hb) hp hn ha ht (Env.keep hE hb)
  rw [RuleM.val_eq] at *
  have HM := Lib.hid hm
  clear hm hR hE
  generalize mtX x.r a t = v at *
  have hl1 := cell_lt hc
  have hl2 := cell_lt hc2
  go_enter Tryz.func72, Tryz.ntmps72
  go_wp2_with (go_at_call 18; refine (HM.out _ belB).mono ?_; rintro e w2 ⟨rfl, hb2⟩)
  go_ret
  exact ⟨rfl, belB⟩
theorem rule_load (w : World) (b o : Nat) (x : RuleM) (hc : ∀ j u, x.cells[j]? = some u → w.cell? ⟨b, o + j, none⟩ = some u) : (loadVar 33 ⟨b, o, none⟩).run Tryz.prog w = .ok x.val w := by
  have hl : (loadCells ⟨b, o, none⟩ 18).run Tryz.prog w = .ok x.cells.toArray w :=
    run_loadCells_list (P := Tryz.prog) w ⟨b, o, none⟩ x.cells (fun j v hv => by
      have hadd : (⟨b, o, none⟩ : Addr).add j = ⟨b, o + j, none⟩ := by unfold Addr.add; split <;> simp_all
      rw [hadd]; exact hc j v hv)
  have hi : (Tryz.prog.info? 33).map (·.size) = some 18 := by kernel_rfl
  cases hq : Tryz.prog.info? 33 with
  | none => rw [hq] at hi; cases hi
  | some i =>
    have hs : i.size = 18 := by rw [hq] at hi; simpa using hi
    have hagg : (isAgg 33).run Tryz.prog w = .ok true w := by
      unfold isAgg
      rw [Sem.run_bind, run_underlying Tryz.underlying33 w]
      rfl
    simp [loadVar, Sem.run_bind, hagg, sizeOf, typeInfo, hq, hs, hl, RuleM.val]
set_option maxHeartbeats 2000000 in
theorem indexFuncR_any (g : Nat) (eg : ∀ args w, (callFunc g args).run Tryz.prog w = .ok (.enter g args) w) (cv cv2 : Value) (p : RuleM → Bool) (A : Option Addr) (n c : Nat) (L : List RuleM) (w : World)
    (hp : ∀ x ∈ L, ∀ W, Below w.heap.size w W → Calls Tryz.prog g #[x.val, cv, cv2] W (Ret W (.bool (p x)))) (hA : RulesRead w A n L) (hn : n ≤ 1000000000) :
    Calls Tryz.prog 71 #[.slice A n c, .func (.func g) #[] #[cv, cv2]] w (Ret w (.int .i64 (idxA p L 0))) := by
  have hl : n ≤ L.length ∧ L.length ≤ n := by have := hA.len; omega
  have HP := Lib.hid hp; have HA := Lib.hid hA
  clear hp hA
  go_enter Tryz.func71, Tryz.ntmps71
  go_wp2
  go_loopw [8] (fun i wr => ∃ k : Nat, k ≤ n ∧ i = .int .i64 k ∧ Hid (idxA p L 0 = idxA p (L.drop k) k) ∧ Below w.heap.size w wr) (fun i _ => n - (intOf i).toNat)
  case atStart => exact ⟨0, by omega, rfl, Lib.hid rfl, Below.refl _ _⟩
  case round =>
    obtain ⟨k, hk, rfl, HI, hb⟩ := hrel
    by_cases hlt : k < n
    · obtain ⟨x, hx⟩ : ∃ x, L[k]? = some x := ⟨_, List.getElem?_eq_getElem (by omega)⟩
      obtain ⟨_, b, o, rfl, hcell⟩ := (HA.out.keep hb).at_ hx
      have hld := rule_load wr b (o + k * 18) x hcell
      have hc := HP.out x (List.mem_of_getElem? hx) wr hb
      have hd : L.drop k = x :: L.drop (k + 1) := by
        obtain ⟨hl2, rfl⟩ := List.getElem?_eq_some_iff.1 hx
        exact List.drop_eq_getElem_cons hl2
      have HI2 := HI.out
      rw [hd, idxA] at HI2
      have HX := Lib.hid hcell
      clear hd hx HI hcell
      have HI := Lib.hid HI2
      clear HI2
      have hxv : x.val = x.val := rfl
      generalize x.val = xv at hld hc
      clear hxv
      cases hpx : p x
      all_goals
        rw [hpx] at hc HI
        have HC := Lib.hid hc
        clear hc hpx
        go_wp2_with (first | (refine wpList_load_addr rfl _ _ rfl ⟨b, o + k * 18, none⟩ xv rfl hld ?_) | (go_at_fn g; refine (HC.out).mono ?_; rintro e w2 ⟨rfl, hb2⟩))
      · refine ⟨⟨k + 1, by omega, by go_num, Lib.hid (by have := HI.out; simpa using this), bstep hb hb2⟩, by simp [intOf]; omega⟩
      · go_ret
        have := HI.out
        exact ⟨ret_int (by rw [this]; simp), bstep hb hb2⟩
    · have he : idxA p L 0 = -1 := by rw [HI.out, List.drop_eq_nil_of_le (by omega)]; rfl
      have HE := Lib.hid he
      clear he HI
      go_wp2
      go_ret
      exact ⟨ret_int HE.out.symm, hb⟩
def chooseX (L : List RuleM) (a t : ByteArray) : Int := idxA (fun x => mtX x.r a t) L 0
structure RulesFit (L : List RuleM) : Prop where
  n : L.length ≤ 1000
  p : ∀ x ∈ L, x.r.pat.size ≤ 100000
  t : ∀ x ∈ L, x.r.tags.length ≤ 1000
set_option maxHeartbeats 4000000 in
theorem choose_any (A : Option Addr) (n c : Nat) (L : List RuleM) (a t : ByteArray) (w : World) (hL : RulesRead w A n L) (hf : RulesFit L) (ha : a.size ≤ 100000) (ht : t.size ≤ 100000) (hE : Env w) :
    Calls Tryz.prog 20 #[.slice A n c, .string a, .string t] w (Ret w (.int .i64 (chooseX L a t))) := by
  have hn : n ≤ 1000 := by have := hL.len; have := hf.n; omega
  have hi : Calls Tryz.prog 71 #[.slice A n c, .func (.func 72) #[] #[.pointer (some ⟨w.heap.size, 0, none⟩), .pointer (some ⟨w.heap.size + 1, 0, none⟩)]] ((w.alloc (.cells #[.string a] 9)).alloc (.cells #[.string t] 9)) (Ret ((w.alloc (.cells #[.string a] 9)).alloc (.cells #[.string t] 9)) (.int .i64 (chooseX L a t))) := by
    have hb : Below w.heap.size w ((w.alloc (.cells #[.string a] 9)).alloc (.cells #[.string t] 9)) := belB
    refine indexFuncR_any 72 (enters_of Tryz.func72 (by kernel_rfl) rfl) _ _ (fun x => mtX x.r a t) A n c L _ (fun x hx W hb' => ?_) (hL.keep hb) (by omega)
    exact choose1_any x a t _ _ W ((hL.each x hx).keep (bstep hb hb')) (cell_keep hb' (alloc2_cell w #[.string a] _ _ (k := 0) rfl)) (cell_keep hb' ((cell_of_row _ _ 0 _ _ _ (heap_alloc2_new w _ _)).trans rfl)) (hf.p x hx) (hf.t x hx) ha ht (Env.keep hE (bstep hb hb'))
  have hmf : ∀ (fn : Fn) (first cap : Array Value) (w : World), (Instr.makeFunc fn first cap).run Tryz.prog w = .ok (.func fn first cap) w := fun _ _ _ _ => rfl
  have HI := Lib.hid hi
  clear hi hL hE hf
  generalize chooseX L a t = v at *
  go_enter Tryz.func20, Tryz.ntmps20
  go_wp2_with (go_at_call 71; refine HI.out.mono ?_; rintro e w2 ⟨rfl, hb2⟩)
  go_ret
  exact ⟨rfl, belB⟩
end Go.Proofs.YtdlbfjoemabfpaaGreatDoor
namespace Go.Proofs.YtdlbfjoemabfpaaGreatDoor
open Go.RowKit Go.Sort
set_option linter.unusedVariables false
set_option linter.unusedSimpArgs false
set_option maxRecDepth 100000
set_option maxHeartbeats 1000000 in
theorem rLetter_any (c : Nat) (w : World) (hc : c < 256) : Calls Tryz.prog 136 #[.int .u8 c] w (Ret w (.bool (isLetN c))) := by
  go_enter Tryz.func136, Tryz.ntmps136
  go_wp2
  all_goals
    go_ret
    exact ⟨ret_bool (by first | (rw [Bool.eq_iff_iff]; simp [isLetN]; done) | (rw [Bool.eq_iff_iff]; simp [isLetN]; omega)), belB⟩
def anyEq (c : Nat) (l : List UInt8) : Bool := l.any fun b => b.toNat == c
theorem take_snocB (s : ByteArray) (k : Nat) (h : k < s.size) : s.data.toList.take (k + 1) = s.data.toList.take k ++ [s[k]] := by
  rw [List.take_succ_eq_append_getElem (by simpa using h)]; rfl
theorem byte_int (b : UInt8) (c : Nat) : ((b.toNat : Int) == (c : Int)) = (b.toNat == c) := by
  rw [Bool.eq_iff_iff, beq_iff_eq, beq_iff_eq]; omega
set_option maxHeartbeats 1000000 in
theorem rHas_any (s : ByteArray) (c : Nat) (w : World) (hs : s.size ≤ 4294967281) : Calls Tryz.prog 91 #[.string s, .int .u8 c] w (Ret w (.bool (anyEq c s.data.toList))) := by
  go_enter Tryz.func91, Tryz.ntmps91
  go_wp2
  go_loop [5] (fun i => ∃ k : Nat, i = .int .i64 k ∧ k ≤ s.size ∧ Hid (anyEq c (s.data.toList.take k) = false)) (fun i => s.size - (intOf i).toNat)
  case atStart => exact ⟨0, rfl, Nat.zero_le _, Lib.hid (by simp [anyEq])⟩
  case round =>
    obtain ⟨k, rfl, hk, HK⟩ := hrel
    by_cases hlt : k < s.size
    · have ht : anyEq c (s.data.toList.take (k + 1)) = (anyEq c (s.data.toList.take k) || (s[k].toNat == c)) := by rw [take_snocB s k hlt]; simp [anyEq]
      have hd := byte_int s[k] c
      cases hb : (s[k].toNat == c)
      · rw [hb] at ht hd
        have HK2 : Hid (anyEq c (s.data.toList.take (k + 1)) = false) := Lib.hid (by rw [ht, HK.out]; rfl)
        clear ht hb HK
        go_wp2
        go_round
        case rel => exact ⟨k + 1, by go_num, by omega, HK2⟩
        case measure => simp [intOf]; omega
      · rw [hb] at ht hd
        have HK2 : Hid (anyEq c s.data.toList = true) := Lib.hid (by
          have h2 : anyEq c (s.data.toList.take (k + 1)) = true := by rw [ht, Bool.or_true]
          unfold anyEq at h2 ⊢
          rw [List.any_eq_true] at h2 ⊢
          obtain ⟨x, hx, h3⟩ := h2
          exact ⟨x, List.mem_of_mem_take hx, h3⟩)
        clear ht hb HK
        go_wp2
        go_ret
        exact ⟨ret_bool HK2.out.symm, belB⟩
    · go_wp2
      go_ret
      refine ⟨ret_bool ?_, belB⟩
      have := HK.out
      rw [List.take_of_length_le (by rw [← Lib.size_eq]; omega)] at this
      exact this.symm
set_option maxHeartbeats 2000000 in
theorem rWord_any (s : ByteArray) (w : World) (hs : s.size ≤ 4294967281) : Calls Tryz.prog 90 #[.string s] w (Ret w (.bool (isWordB s))) := by
  by_cases h0 : s.size = 0
  · have d0 : ((s.size : Int) == 0) = true := by simp [h0]
    have hv : isWordB s = false := by
      have : s.data.toList = [] := List.eq_nil_of_length_eq_zero (by rw [← Lib.size_eq]; exact h0)
      simp [isWordB, Lib.toList_data, this]
    rw [hv]; clear hv h0
    go_enter Tryz.func90, Tryz.ntmps90
    go_wp2
    go_ret
    exact ⟨rfl, belB⟩
  have d0 : ((s.size : Int) == 0) = false := beq_eq_false_iff_ne.2 (by omega)
  by_cases h1 : s.size ≤ 64
  rotate_left
  · have d1 : decide ((64 : Int) < (s.size : Int)) = true := decide_eq_true (by omega)
    have hv : isWordB s = false := by simp [isWordB, h1]
    rw [hv]; clear hv
    go_enter Tryz.func90, Tryz.ntmps90
    go_wp2
    go_ret
    exact ⟨rfl, belB⟩
  have d1 : decide ((64 : Int) < (s.size : Int)) = false := decide_eq_false (by omega)
  cases h2 : (s.toList == [46])
  rotate_left
  · have hv : isWordB s = false := by simp [isWordB, h2]
    rw [hv]; clear hv
    go_enter Tryz.func90, Tryz.ntmps90
    go_wp2
    go_ret
    exact ⟨rfl, belB⟩
  cases h3 : (s.toList == [46, 46])
  rotate_left
  · have hv : isWordB s = false := by simp [isWordB, h3]
    rw [hv]; clear hv
    go_enter Tryz.func90, Tryz.ntmps90
    go_wp2
    go_ret
    exact ⟨rfl, belB⟩
  have hv : isWordB s = s.data.toList.all letterB := by
    have : s.toList.isEmpty = false := by
      rw [Lib.toList_data]
      cases hl : s.data.toList with
      | nil => rw [Lib.size_eq, hl] at h0; simp at h0
      | cons _ _ => rfl
    simp [isWordB, h2, h3, this, h1]
  rw [hv]; clear hv
  go_enter Tryz.func90, Tryz.ntmps90
  go_wp2
  go_loopw [3] (fun i wr => ∃ k : Nat, i = .int .i64 k ∧ k ≤ s.size ∧ Hid ((s.data.toList.take k).all letterB = true) ∧ Below w.heap.size w wr) (fun i _ => s.size - (intOf i).toNat)
  case atStart => exact ⟨0, rfl, Nat.zero_le _, Lib.hid (by simp), Below.refl _ _⟩
  case round =>
    obtain ⟨k, rfl, hk, HK, hbr⟩ := hrel
    by_cases hlt : k < s.size
    · have ht : (s.data.toList.take (k + 1)).all letterB = ((s.data.toList.take k).all letterB && letterB s[k]) := by rw [take_snocB s k hlt]; simp
      have cL := fun W => rLetter_any s[k].toNat W (s[k].toNat_lt)
      unfold letterB at ht
      generalize isLetN s[k].toNat = b at *
      cases b
      · have HK2 : Hid (s.data.toList.all letterB = false) := Lib.hid (by
          have h2 : (s.data.toList.take (k + 1)).all letterB = false := by unfold letterB; rw [ht, Bool.and_false]
          rw [List.all_eq_false] at h2 ⊢
          obtain ⟨x, hx, h3⟩ := h2
          exact ⟨x, List.mem_of_mem_take hx, h3⟩)
        clear ht HK
        have HL := Lib.hid cL
        clear cL
        go_wp2_with (go_at_call 136; refine (HL.out _).mono ?_; rintro e w1 ⟨rfl, hb1⟩)
        go_ret
        exact ⟨ret_bool HK2.out.symm, belB⟩
      · have HK2 : Hid ((s.data.toList.take (k + 1)).all letterB = true) := Lib.hid (by have := HK.out; unfold letterB at this ⊢; rw [ht, this]; rfl)
        clear ht HK
        have HL := Lib.hid cL
        clear cL
        go_wp2_with (go_at_call 136; refine (HL.out _).mono ?_; rintro e w1 ⟨rfl, hb1⟩)
        exact ⟨⟨k + 1, by go_num, by omega, HK2, belB⟩, by simp [intOf]; omega⟩
    · go_wp2
      go_ret
      refine ⟨ret_bool ?_, belB⟩
      have := HK.out
      rw [List.take_of_length_le (by rw [← Lib.size_eq]; omega)] at this
      exact this.symm
theorem anyEq_46 (s : ByteArray) : (isWordB s && !anyEq 46 s.data.toList) = isNameB s := by
  unfold isNameB
  congr 2
  rw [Bool.eq_iff_iff, decide_eq_true_eq]
  unfold anyEq
  generalize s.data.toList = l
  induction l with
  | nil => simp [Lib.indexByte]
  | cons b l ih =>
    rw [Lib.indexByte, List.any_cons, Bool.or_eq_true]
    have hb : (b.toNat == 46) = true ↔ (b == 46) = true := by
      rw [beq_iff_eq, beq_iff_eq, ← UInt8.toNat_inj]; rfl
    rw [hb, ih]
    split
    · simp [*]
    · split
      · rename_i h2
        simp only [beq_iff_eq] at h2
        simp [*]
      · rename_i h1 h2
        simp only [beq_iff_eq] at h2
        have : -1 ≤ Lib.indexByte l 46 := by
          rw [← Lib.index_one]; exact Lib.index_ge _ _
        simp only [h1, false_or, Bool.false_eq_true]
        omega
set_option maxHeartbeats 1000000 in
theorem rName_any (s : ByteArray) (w : World) (hs : s.size ≤ 4294967281) : Calls Tryz.prog 50 #[.string s] w (Ret w (.bool (isNameB s))) := by
  have cW := fun W => rWord_any s W hs
  have cH := fun W => rHas_any s 46 W hs
  rw [← anyEq_46]
  generalize isWordB s = b at *
  generalize anyEq 46 s.data.toList = h at *
  have HH := Lib.hid cH
  have HW := Lib.hid cW
  clear cH cW
  cases b
  · go_enter Tryz.func50, Tryz.ntmps50
    go_wp2_with (go_at_call 90; refine (HW.out _).mono ?_; rintro e w1 ⟨rfl, hb1⟩)
    go_ret
    exact ⟨rfl, belB⟩
  · go_enter Tryz.func50, Tryz.ntmps50
    go_wp2_with (first | (go_at_call 90; refine (HW.out _).mono ?_; rintro e w1 ⟨rfl, hb1⟩) | (go_at_call 91; refine (HH.out _).mono ?_; rintro e w2 ⟨rfl, hb2⟩))
    go_ret
    exact ⟨ret_bool (by simp), belB⟩
end Go.Proofs.YtdlbfjoemabfpaaGreatDoor
namespace Go.Proofs.YtdlbfjoemabfpaaGreatDoor
open Go.RowKit Go.Sort
set_option linter.unusedVariables false
set_option linter.unusedSimpArgs false
set_option maxRecDepth 100000
theorem lowAt_step2 (s : ByteArray) (k j : Nat) : lowAt s (k + 1) j = if j = k then (if 65 ≤ lowAt s k k ∧ lowAt s k k ≤ 90 then lowAt s k k + 32 else lowAt s k k) else lowAt s k j := by
  rw [lowAt_step]
  split
  · split <;> omega
  · rfl
set_option maxHeartbeats 1000000 in
theorem rSmall_any (s : ByteArray) (w : World) (hs : s.size ≤ 4294967281) : Calls Tryz.prog 155 #[.string s] w (Ret w (.string ⟨(lowL s.data.toList).toArray⟩)) := by
  have hcv := fun W => run_bytes_of_string (P := Tryz.prog) W 9 120 5 s Tryz.underlying9 Tryz.underlying120 Tryz.underlying5
  go_enter Tryz.func155, Tryz.ntmps155
  go_wp2
  clear hcv
  obtain ⟨R, hR⟩ : ∃ R, bytesRow s (grownCap w s.size 0 5) = R := ⟨_, rfl⟩
  obtain ⟨C, hC⟩ : ∃ C, grownCap w s.size 0 5 = C := ⟨_, rfl⟩
  have hrow : ∀ j, j < s.size → R[j]? = some (.int .u8 (lowAt s 0 j)) := by
    intro j hj
    rw [← hR, bytesRow_at _ _ _ hj]
    simp only [lowAt, Nat.not_lt_zero, if_false]
    have hl : j < s.data.toList.length := by rw [← Lib.size_eq]; exact hj
    rw [List.getElem?_eq_getElem hl]
    rfl
  have hRs : s.size ≤ R.size := by rw [← hR]; simp only [bytesRow, Array.size_append, Array.size_map]; exact Nat.le_add_right _ _
  rw [hR, hC]
  clear hR hC
  go_loopw [4] (fun i wr => ∃ (k : Nat) (R' : Array Value), k ≤ s.size ∧ i = .int .i64 k ∧ Blk wr w.heap.size 5 R' (R.size, R.size + 1) ∧ (∀ j, j < s.size → R'[j]? = some (.int .u8 (lowAt s k j))) ∧ Below w.heap.size w wr) (fun i _ => s.size - (intOf i).toNat)
  case atStart => exact ⟨0, R, by omega, rfl, heap_alloc_new w _, hrow, belB⟩
  case round =>
    obtain ⟨k, R', hk, rfl, hB, hr, hb⟩ := hrel
    have H := Lib.hid hr
    clear hr hrow
    by_cases hlt : k < s.size
    · have hcell : wr.cell? ⟨w.heap.size, k, none⟩ = some (.int .u8 (lowAt s k k)) := by rw [hB.cell]; exact H.out k hlt
      have hfree := hB.free k (by simp; omega)
      have hbd := lowAt_bd s k k
      go_wp2
      · refine ⟨⟨k + 1, _, by omega, by go_num, hB.set_ k _, fun j hj => ?_, belB⟩, by simp [intOf]; omega⟩
        rw [Array.getElem?_setIfInBounds, lowAt_step2]
        have hkR : k < R'.size := by
          have := H.out k hlt
          exact (Array.getElem?_eq_some_iff.1 this).1
        by_cases e : k = j
        · subst e
          rw [if_pos rfl, if_pos hkR, if_pos rfl, if_pos ⟨by assumption, by assumption⟩]
        · rw [if_neg e, if_neg (Ne.symm e)]
          exact H.out j hj
      all_goals
        refine ⟨⟨k + 1, _, by omega, by go_num, hB, fun j hj => ?_, hb⟩, by simp [intOf]; omega⟩
        rw [H.out j hj, lowAt_step2]
        by_cases e : j = k
        · subst e
          rw [if_pos rfl, if_neg (by omega)]
        · rw [if_neg e]
    · obtain rfl : k = s.size := by omega
      have hback : ∀ c, (convert 120 9 (.slice (some ⟨w.heap.size, 0, none⟩) s.size c)).run Tryz.prog wr = .ok (.string ⟨(lowL s.data.toList).toArray⟩) wr := fun c =>
        run_back wr 120 9 5 ⟨w.heap.size, 0, none⟩ s.size c (lowL s.data.toList) (by simp [lowL]) Tryz.underlying120 Tryz.underlying5 Tryz.underlying9 (fun j hj => by
          have hj' : j < s.size := by rw [Lib.size_eq]; simpa [lowL] using hj
          have e : (⟨w.heap.size, 0, none⟩ : Addr).add j = ⟨w.heap.size, j, none⟩ := by unfold Addr.add; split <;> simp_all
          rw [e, hB.cell, H.out j hj', lowAt_end s j hj])
      go_wp2
      go_ret
      exact ⟨rfl, hb⟩
theorem at_split (l : List UInt8) (k : Nat) (hk : k < l.length) : l = l.take k ++ l[k] :: l.drop (k + 1) := by
  rw [← List.drop_eq_getElem_cons hk, List.take_append_drop]
theorem byte_at (s : ByteArray) (k : Nat) (h : k < s.size) : s[k] = s.data.toList[k]'(by rw [← Lib.size_eq]; exact h) := by simp; rfl
def cutV (s : ByteArray) (c : UInt8) : Value := .tuple #[.string (toB (Lib.cut s.data.toList [c]).1), .string (toB (Lib.cut s.data.toList [c]).2.1), .bool (Lib.cut s.data.toList [c]).2.2]
set_option maxHeartbeats 2000000 in
theorem rCut_any (s : ByteArray) (c : UInt8) (w : World) (hs : s.size ≤ 4294967281) : Calls Tryz.prog 154 #[.string s, .int .u8 c.toNat] w (Ret w (cutV s c)) := by
  go_enter Tryz.func154, Tryz.ntmps154
  go_wp2
  go_loopw [7] (fun i wr => ∃ k : Nat, i = .int .i64 k ∧ k ≤ s.size ∧ Hid (c ∉ s.data.toList.take k) ∧ Below w.heap.size w wr) (fun i _ => s.size - (intOf i).toNat)
  case atStart => exact ⟨0, rfl, Nat.zero_le _, Lib.hid (by simp), Below.refl _ _⟩
  case round =>
    obtain ⟨k, rfl, hk, HK, hbr⟩ := hrel
    by_cases hlt : k < s.size
    · have hd := byte_int s[k] c.toNat
      have hkl : k < s.data.toList.length := by rw [← Lib.size_eq]; exact hlt
      have hat := byte_at s k hlt
      cases hb : (s[k].toNat == c.toNat)
      · rw [hb] at hd
        have hne : s[k] ≠ c := fun e => by rw [e] at hb; simp at hb
        have HK2 : Hid (c ∉ s.data.toList.take (k + 1)) := Lib.hid (by
          rw [take_snocB s k hlt]
          simp only [List.mem_append, List.mem_singleton, not_or]
          exact ⟨HK.out, fun e => hne e.symm⟩)
        clear hb HK hat hne
        go_wp2
        exact ⟨⟨k + 1, by go_num, by omega, HK2, hbr⟩, by simp [intOf]; omega⟩
      · rw [hb] at hd
        have he : s[k] = c := by rw [beq_iff_eq] at hb; exact UInt8.toNat_inj.1 hb
        have hv : cutV s c = .tuple #[.string (s.extract 0 k), .string (s.extract (k + 1) s.size), .bool true] := by
          have h1 := at_split s.data.toList k hkl
          rw [← hat, he] at h1
          have h2 : Lib.cut s.data.toList [c] = (s.data.toList.take k, s.data.toList.drop (k + 1), true) := by
            conv => lhs; rw [h1]
            exact cut_hit _ _ _ HK.out
          unfold cutV
          rw [h2]
          have e1 : toB (s.data.toList.take k) = s.extract 0 k := bytes_ext (by rw [Lib.extract_data]; simp [toB])
          have e2 : toB (s.data.toList.drop (k + 1)) = s.extract (k + 1) s.size := bytes_ext (by rw [Lib.extract_to_end]; rfl)
          rw [e1, e2]
        have HV := Lib.hid hv
        have hk0 : (0 : Int) ≤ (k : Int) := by omega
        have hk1 : (k : Int) + 1 ≤ (s.size : Int) := by omega
        have hk2 : (k : Int) ≤ (s.size : Int) := by omega
        clear hb HK hat he hv
        go_wp2_with fail
        go_quiet (fail)
        go_wp2
        go_ret3
        rw [HV.out]
        exact ⟨rfl, belB⟩
    · have hv : cutV s c = .tuple #[.string s, .string ⟨#[]⟩, .bool false] := by
        have h1 := HK.out
        rw [List.take_of_length_le (by rw [← Lib.size_eq]; omega)] at h1
        unfold cutV
        rw [cut_none _ _ h1]
        rfl
      have HV := Lib.hid hv
      clear hv HK
      go_wp2
      go_ret3
      rw [HV.out]
      exact ⟨rfl, belB⟩
end Go.Proofs.YtdlbfjoemabfpaaGreatDoor
