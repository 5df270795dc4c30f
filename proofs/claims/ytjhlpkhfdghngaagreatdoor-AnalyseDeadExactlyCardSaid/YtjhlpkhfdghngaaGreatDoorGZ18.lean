/- Rules and ways to vary: their values, how they lie in memory. -/
import Derived.Test.YtjhlpkhfdghngaaGreatDoorGZ4
import Derived.Test.YtjhlpkhfdghngaaGreatDoorGZ16
import Derived.Test.YtjhlpkhfdghngaaGreatDoorProg
import Derived.WalkKit
import Derived.WalkSpells
import Derived.WalkLawsBesides
import Derived.Below
import Derived.Deep.QuietTactic
import Derived.BigQuiet
import Derived.Lib.QuietBelow
import Derived.Lib.Strings
import Derived.Lib.Hide
import Derived.Deep.RegionWith
import Derived.Deep.RegionHeld3
import Derived.Lib.IndexBytes
import Derived.Test.YtjhlpkhfdghngaaGreatDoorGZ7
import Derived.Test.YtjhlpkhfdghngaaGreatDoorGZ8
import Derived.Test.YtjhlpkhfdghngaaGreatDoorGZ5
namespace Go.Proofs.YtjhlpkhfdghngaaGreatDoor
open Go.RowKit Go.Sort
set_option linter.unusedVariables false
set_option linter.unusedSimpArgs false
set_option maxRecDepth 100000
structure VaryV where
  header : ByteArray
  values : List ByteArray
  dflt : ByteArray
structure VaryM where
  v : VaryV
  A : Option Addr
  c : Nat
def VaryM.cells (x : VaryM) : List Value := [.string x.v.header, .slice x.A x.v.values.length x.c, .string x.v.dflt]
def VaryReads (w : World) (x : VaryM) : Prop := Reads w 1 x.A x.v.values.length (x.v.values.map .string)
theorem VaryReads.keep {w w' : World} {x : VaryM} (h : VaryReads w x) (hb : Below w.heap.size w w') : VaryReads w' x := Reads.keep h hb
structure RuleV where
  name : ByteArray
  pat : ByteArray
  tags : List ByteArray
  fresh : Int
  stale : Int
  down : Int
  neg : Int
  vary : List VaryV
  allow : CondV
  signed : Bool
  cost : Int
  prog : ByteArray
structure RuleM where
  r : RuleV
  T : Option Addr
  ct : Nat
  V : Option Addr
  cv : Nat
  L : List VaryM
  m : CondMem
def RuleM.cells (x : RuleM) : List Value := [.string x.r.name, .string x.r.pat, .slice x.T x.r.tags.length x.ct, .int .i64 x.r.fresh, .int .i64 x.r.stale, .int .i64 x.r.down, .int .i64 x.r.neg, .slice x.V x.r.vary.length x.cv,
  .int .i64 x.r.allow.fr, .int .i64 x.r.allow.till, .string x.r.allow.pat, .slice x.m.A x.r.allow.cl.length x.m.ca, .slice x.m.B x.r.allow.co.length x.m.cb, .slice x.m.S x.r.allow.si.length x.m.cs, .int .i64 x.r.allow.us, .bool x.r.signed, .int .i64 x.r.cost, .string x.r.prog]
def RuleM.val (x : RuleM) : Value := .agg x.cells.toArray
structure RuleReads (w : World) (x : RuleM) : Prop where
  tags : Reads w 1 x.T x.r.tags.length (x.r.tags.map .string)
  vary : Reads w 3 x.V x.r.vary.length (x.L.flatMap VaryM.cells)
  same : x.L.map (·.v) = x.r.vary
  each : ∀ y ∈ x.L, VaryReads w y
  allow : CondReads w x.r.allow x.m
theorem RuleReads.keep {w w' : World} {x : RuleM} (h : RuleReads w x) (hb : Below w.heap.size w w') : RuleReads w' x :=
  ⟨h.tags.keep hb, h.vary.keep hb, h.same, fun y hy => (h.each y hy).keep hb, h.allow.keep hb⟩
theorem VaryM.cells_len (x : VaryM) : x.cells.length = 3 := rfl
theorem RuleM.cells_len (x : RuleM) : x.cells.length = 18 := rfl
structure RulesRead (w : World) (A : Option Addr) (n : Nat) (L : List RuleM) : Prop where
  len : L.length = n
  rows : Reads w 18 A n (L.flatMap RuleM.cells)
  each : ∀ x ∈ L, RuleReads w x
theorem RulesRead.keep {w w' : World} {A : Option Addr} {n : Nat} {L : List RuleM} (h : RulesRead w A n L) (hb : Below w.heap.size w w') : RulesRead w' A n L := ⟨h.len, h.rows.keep hb, fun x hx => (h.each x hx).keep hb⟩
theorem RulesRead.at_ {w : World} {A : Option Addr} {n k : Nat} {L : List RuleM} {x : RuleM} (h : RulesRead w A n L) (hk : L[k]? = some x) :
    RuleReads w x ∧ ∃ b o, A = some ⟨b, o, none⟩ ∧ ∀ j u, x.cells[j]? = some u → w.cell? ⟨b, o + k * 18 + j, none⟩ = some u :=
  ⟨h.each x (List.mem_of_getElem? hk), Reads.row h.rows (fun a _ => a.cells_len) h.len hk⟩
end Go.Proofs.YtjhlpkhfdghngaaGreatDoor
namespace Go.Proofs.YtjhlpkhfdghngaaGreatDoor
open Go.RowKit Go.Sort
set_option linter.unusedVariables false
set_option linter.unusedSimpArgs false
set_option maxRecDepth 100000
theorem le_prev2 (x y : ByteArray) : (Op.bytesLess x.toList y.toList || x.toList == y.toList) = !ltB y x := le_prev x y
end Go.Proofs.YtjhlpkhfdghngaaGreatDoor
namespace Go.Proofs.YtjhlpkhfdghngaaGreatDoor
open Go.RowKit Go.Sort
set_option linter.unusedVariables false
set_option linter.unusedSimpArgs false
set_option maxRecDepth 100000
theorem box_facts {W : World} {g : Nat} {x : RuleM} (h : RowV W g 33 x.cells) : W.cell? ⟨g, 0, none⟩ = some (.string x.r.name) ∧ W.cell? ⟨g, 1, none⟩ = some (.string x.r.pat) ∧ W.cell? ⟨g, 2, none⟩ = some (.slice x.T x.r.tags.length x.ct) ∧ W.cell? ⟨g, 3, none⟩ = some (.int .i64 x.r.fresh) ∧ W.cell? ⟨g, 4, none⟩ = some (.int .i64 x.r.stale) ∧ W.cell? ⟨g, 5, none⟩ = some (.int .i64 x.r.down) ∧ W.cell? ⟨g, 6, none⟩ = some (.int .i64 x.r.neg) ∧ W.cell? ⟨g, 7, none⟩ = some (.slice x.V x.r.vary.length x.cv) ∧ W.cell? ⟨g, 8, none⟩ = some (.int .i64 x.r.allow.fr) ∧ W.cell? ⟨g, 9, none⟩ = some (.int .i64 x.r.allow.till) ∧ W.cell? ⟨g, 10, none⟩ = some (.string x.r.allow.pat) ∧ W.cell? ⟨g, 11, none⟩ = some (.slice x.m.A x.r.allow.cl.length x.m.ca) ∧ W.cell? ⟨g, 12, none⟩ = some (.slice x.m.B x.r.allow.co.length x.m.cb) ∧ W.cell? ⟨g, 13, none⟩ = some (.slice x.m.S x.r.allow.si.length x.m.cs) ∧ W.cell? ⟨g, 14, none⟩ = some (.int .i64 x.r.allow.us) ∧ W.cell? ⟨g, 15, none⟩ = some (.bool x.r.signed) ∧ W.cell? ⟨g, 16, none⟩ = some (.int .i64 x.r.cost) ∧ W.cell? ⟨g, 17, none⟩ = some (.string x.r.prog) :=
  ⟨RowV.cell h rfl, RowV.cell h rfl, RowV.cell h rfl, RowV.cell h rfl, RowV.cell h rfl, RowV.cell h rfl, RowV.cell h rfl, RowV.cell h rfl, RowV.cell h rfl, RowV.cell h rfl, RowV.cell h rfl, RowV.cell h rfl, RowV.cell h rfl, RowV.cell h rfl, RowV.cell h rfl, RowV.cell h rfl, RowV.cell h rfl, RowV.cell h rfl⟩
end Go.Proofs.YtjhlpkhfdghngaaGreatDoor
namespace Go.Proofs.YtjhlpkhfdghngaaGreatDoor
open Go.RowKit Go.Sort
set_option linter.unusedVariables false
set_option linter.unusedSimpArgs false
set_option maxRecDepth 100000
def VaryM.val (x : VaryM) : Value := .agg x.cells.toArray
structure VarysRead (w : World) (A : Option Addr) (n : Nat) (L : List VaryM) : Prop where
  len : L.length = n
  rows : Reads w 3 A n (L.flatMap VaryM.cells)
  each : ∀ x ∈ L, VaryReads w x
theorem VarysRead.keep {w w' : World} {A : Option Addr} {n : Nat} {L : List VaryM} (h : VarysRead w A n L) (hb : Below w.heap.size w w') : VarysRead w' A n L := ⟨h.len, h.rows.keep hb, fun x hx => (h.each x hx).keep hb⟩
theorem VarysRead.at_ {w : World} {A : Option Addr} {n k : Nat} {L : List VaryM} {x : VaryM} (h : VarysRead w A n L) (hk : L[k]? = some x) :
    VaryReads w x ∧ ∃ b o, A = some ⟨b, o, none⟩ ∧ ∀ j u, x.cells[j]? = some u → w.cell? ⟨b, o + k * 3 + j, none⟩ = some u :=
  ⟨h.each x (List.mem_of_getElem? hk), Reads.row h.rows (fun a _ => a.cells_len) h.len hk⟩
theorem RuleReads.varys {w : World} {x : RuleM} (h : RuleReads w x) : VarysRead w x.V x.r.vary.length x.L :=
  ⟨by have h1 := congrArg List.length h.same; rw [List.length_map] at h1; exact h1, h.vary, h.each⟩
structure Hdr where
  name : ByteArray
  value : ByteArray
def Hdr.cells (h : Hdr) : List Value := [.string h.name, .string h.value]
def Hdr.val (h : Hdr) : Value := .agg h.cells.toArray
theorem Hdr.cells_len (x : Hdr) : x.cells.length = 2 := rfl
structure HdrsRead (w : World) (A : Option Addr) (n : Nat) (L : List Hdr) : Prop where
  len : L.length = n
  rows : Reads w 2 A n (L.flatMap Hdr.cells)
theorem HdrsRead.keep {w w' : World} {A : Option Addr} {n : Nat} {L : List Hdr} (h : HdrsRead w A n L) (hb : Below w.heap.size w w') : HdrsRead w' A n L := ⟨h.len, h.rows.keep hb⟩
theorem HdrsRead.at_ {w : World} {A : Option Addr} {n k : Nat} {L : List Hdr} {x : Hdr} (h : HdrsRead w A n L) (hk : L[k]? = some x) :
    True ∧ ∃ b o, A = some ⟨b, o, none⟩ ∧ ∀ j u, x.cells[j]? = some u → w.cell? ⟨b, o + k * 2 + j, none⟩ = some u :=
  ⟨trivial, Reads.row h.rows (fun a _ => a.cells_len) h.len hk⟩
theorem load_row_of {T : TypeId} {d : Array Field} (N : Nat) (l : List Value) (hl : l.length = N) (hu : Tryz.prog.underlying T = some (.struct d)) (hi : (Tryz.prog.info? T).map (·.size) = some N) (hg : ∀ w, (isAgg T).run Tryz.prog w = .ok true w) (w : World) (b o : Nat) (hc : ∀ j u, l[j]? = some u → w.cell? ⟨b, o + j, none⟩ = some u) : (loadVar T ⟨b, o, none⟩).run Tryz.prog w = .ok (.agg l.toArray) w := by
  have hld : (loadCells ⟨b, o, none⟩ N).run Tryz.prog w = .ok l.toArray w := by
    rw [← hl]
    exact run_loadCells_list (P := Tryz.prog) w ⟨b, o, none⟩ l (fun j v hv => by
      have hadd : (⟨b, o, none⟩ : Addr).add j = ⟨b, o + j, none⟩ := by unfold Addr.add; split <;> simp_all
      rw [hadd]; exact hc j v hv)
  cases hq : Tryz.prog.info? T with
  | none => rw [hq] at hi; cases hi
  | some i =>
    have hs : i.size = N := by rw [hq] at hi; simpa using hi
    simp [loadVar, Sem.run_bind, hg w, sizeOf, typeInfo, hq, hs, hld]
theorem agg_vary (w : World) : (isAgg 99).run Tryz.prog w = .ok true w := by
  unfold isAgg
  rw [Sem.run_bind, run_underlying Tryz.underlying99 w]
  rfl
theorem varyA_load (w : World) (b o : Nat) (x : VaryM) (hc : ∀ j u, x.cells[j]? = some u → w.cell? ⟨b, o + j, none⟩ = some u) : (loadVar 99 ⟨b, o, none⟩).run Tryz.prog w = .ok x.val w :=
  load_row_of 3 x.cells rfl Tryz.underlying99 (by kernel_rfl) agg_vary w b o hc
end Go.Proofs.YtjhlpkhfdghngaaGreatDoor
namespace Go.Proofs.YtjhlpkhfdghngaaGreatDoor
open Go.RowKit Go.Sort
set_option linter.unusedVariables false
set_option linter.unusedSimpArgs false
set_option maxRecDepth 100000
def nameN (c : Nat) : Bool := decide (97 ≤ c ∧ c ≤ 122 ∨ 48 ≤ c ∧ c ≤ 57 ∨ c = 45)
def valueN (c : Nat) : Bool := decide (33 ≤ c ∧ c ≤ 126)
set_option maxHeartbeats 1000000 in
theorem nameN_any (c : Nat) (w : World) (hc : c < 256) : Calls Tryz.prog 298 #[.int .u8 c] w (Ret w (.bool (nameN c))) := by
  go_enter Tryz.func298, Tryz.ntmps298
  go_wp2
  all_goals
    go_ret
    exact ⟨ret_bool (by first | (rw [Bool.eq_iff_iff]; simp [nameN]; done) | (rw [Bool.eq_iff_iff]; simp [nameN]; omega)), belB⟩
set_option maxHeartbeats 1000000 in
theorem valueN_any (c : Nat) (w : World) (hc : c < 256) : Calls Tryz.prog 299 #[.int .u8 c] w (Ret w (.bool (valueN c))) := by
  go_enter Tryz.func299, Tryz.ntmps299
  go_wp2
  all_goals
    go_ret
    exact ⟨ret_bool (by first | (rw [Bool.eq_iff_iff]; simp [valueN]; done) | (rw [Bool.eq_iff_iff]; simp [valueN]; omega)), belB⟩
def wordV (p : Nat → Bool) (s : ByteArray) : Bool := s.data.toList.all (fun b => p b.toNat) && (decide (1 ≤ s.size) && decide (s.size ≤ 64))
theorem u8_lt (b : UInt8) : b.toNat < 256 := by have := b.toNat_lt; omega
set_option maxHeartbeats 2000000 in
theorem vword_any (g : Nat) (eg : ∀ args w, (callFunc g args).run Tryz.prog w = .ok (.enter g args) w) (p : Nat → Bool) (hp : ∀ c, c < 256 → ∀ W, Calls Tryz.prog g #[.int .u8 (c : Nat)] W (Ret W (.bool (p c)))) (s : ByteArray) (w : World) (hs : s.size ≤ 1000000) :
    Calls Tryz.prog 297 #[.string s, .func (.func g) #[] #[]] w (Ret w (.bool (wordV p s))) := by
  obtain ⟨V, hV⟩ : ∃ V, V = wordV p s := ⟨_, rfl⟩
  rw [← hV]
  have HV := Lib.hid hV; have HP := Lib.hid hp
  clear hV hp
  go_enter Tryz.func297, Tryz.ntmps297
  go_wp2_with fail
  go_loopw [8] (fun i wr => ∃ k : Nat, k ≤ s.size ∧ i = .int .i64 k ∧ Hid ((s.data.toList.take k).all (fun b => p b.toNat) = true) ∧ Below w.heap.size w wr) (fun i _ => s.size - (intOf i).toNat)
  case atStart => exact ⟨0, by omega, rfl, Lib.hid (by simp), Below.refl _ _⟩
  case round =>
    obtain ⟨k, hk, rfl, HK, hb⟩ := hrel
    by_cases hlt : k < s.size
    · have ht := take_snocB s k hlt
      have hc := HP.out s[k].toNat (u8_lt _) wr
      have hk0 : (0 : Int) ≤ (k : Int) := by omega
      have hk1 : (k : Int) < (s.size : Int) := by omega
      cases hpb : p s[k].toNat
      · rw [hpb] at hc
        have HC := Lib.hid hc
        obtain rfl : V = false := by
          rw [HV.out]
          unfold wordV
          rw [Bool.and_eq_false_iff]
          refine .inl ?_
          rw [List.all_eq_false]
          exact ⟨s[k], by
            have : s[k] ∈ s.data.toList.take (k + 1) := by rw [ht]; simp
            exact List.mem_of_mem_take this, by simp [hpb]⟩
        clear ht hc hpb
        go_wp2_with (go_at_fn g; refine HC.out.mono ?_; rintro e w2 ⟨rfl, hb2⟩)
        go_ret
        exact ⟨rfl, bstep hb hb2⟩
      · rw [hpb] at hc
        have HC := Lib.hid hc
        have HK2 : Hid ((s.data.toList.take (k + 1)).all (fun b => p b.toNat) = true) := Lib.hid (by rw [ht, List.all_append, HK.out]; simp [hpb])
        clear ht hc hpb
        go_wp2_with (go_at_fn g; refine HC.out.mono ?_; rintro e w2 ⟨rfl, hb2⟩)
        exact ⟨⟨k + 1, by omega, by go_num, HK2, bstep hb hb2⟩, by simp [intOf]; omega⟩
    · have hall : V = (decide (1 ≤ s.size) && decide (s.size ≤ 64)) := by
        have := HK.out
        rw [List.take_of_length_le (by rw [← Lib.size_eq]; omega)] at this
        rw [HV.out, wordV, this, Bool.true_and]
      by_cases h1 : 1 ≤ s.size
      · have d1 : decide ((1 : Int) ≤ (s.size : Int)) = true := decide_eq_true (by omega)
        by_cases h2 : s.size ≤ 64
        · have d2 : decide ((s.size : Int) ≤ 64) = true := decide_eq_true (by omega)
          obtain rfl : V = true := by rw [hall, decide_eq_true h1, decide_eq_true h2]; rfl
          clear hall
          go_wp2_with fail
          go_ret
          exact ⟨rfl, hb⟩
        · have d2 : decide ((s.size : Int) ≤ 64) = false := decide_eq_false (by omega)
          obtain rfl : V = false := by rw [hall, decide_eq_false h2, Bool.and_false]
          clear hall
          go_wp2_with fail
          go_ret
          exact ⟨rfl, hb⟩
      · have d1 : decide ((1 : Int) ≤ (s.size : Int)) = false := decide_eq_false (by omega)
        obtain rfl : V = false := by rw [hall, decide_eq_false h1, Bool.false_and]
        clear hall
        go_wp2_with fail
        go_ret
        exact ⟨rfl, hb⟩
theorem vname_any (s : ByteArray) (w : World) (hs : s.size ≤ 1000000) : Calls Tryz.prog 262 #[.string s] w (Ret w (.bool (wordV nameN s))) := by
  have H := Lib.hid (fun W => vword_any 298 (enters_of Tryz.func298 (by kernel_rfl) rfl) nameN (fun c hc W => nameN_any c W hc) s W hs)
  generalize wordV nameN s = v at *
  go_enter Tryz.func262, Tryz.ntmps262
  go_wp2_with (go_at_call 297; refine (H.out _).mono ?_; rintro e w2 ⟨rfl, hb2⟩)
  go_ret
  exact ⟨rfl, hb2⟩
theorem vvalue_any (s : ByteArray) (w : World) (hs : s.size ≤ 1000000) : Calls Tryz.prog 263 #[.string s] w (Ret w (.bool (wordV valueN s))) := by
  have H := Lib.hid (fun W => vword_any 299 (enters_of Tryz.func299 (by kernel_rfl) rfl) valueN (fun c hc W => valueN_any c W hc) s W hs)
  generalize wordV valueN s = v at *
  go_enter Tryz.func263, Tryz.ntmps263
  go_wp2_with (go_at_call 297; refine (H.out _).mono ?_; rintro e w2 ⟨rfl, hb2⟩)
  go_ret
  exact ⟨rfl, hb2⟩
end Go.Proofs.YtjhlpkhfdghngaaGreatDoor
namespace Go.Proofs.YtjhlpkhfdghngaaGreatDoor
open Go.RowKit Go.Sort
set_option linter.unusedVariables false
set_option linter.unusedSimpArgs false
set_option maxRecDepth 100000
structure RuleCaps (x : RuleM) : Prop where
  t : x.r.tags.length ≤ x.ct
  v : ∀ y ∈ x.L, y.v.values.length ≤ y.c
  w : x.r.vary.length ≤ x.cv
end Go.Proofs.YtjhlpkhfdghngaaGreatDoor
