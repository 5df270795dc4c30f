/- The chapter's policy: what is true of it. -/
import Derived.Test.YtjhlpkhfdghngaaGreatDoorXZ16
import Derived.Test.YtjhlpkhfdghngaaGreatDoorXZ13
import Derived.Test.YtjhlpkhfdghngaaGreatDoorProg
import Derived.WalkKit
import Derived.WalkSpells
import Derived.WalkLawsBesides
import Derived.Below
import Derived.Deep.QuietTactic
import Derived.BigQuiet
import Derived.Lib.QuietBelow
import Derived.Lib.Strings
import Derived.Lib.Hide
import Derived.Deep.RegionWith
import Derived.Deep.RegionHeld3
import Derived.Lib.IndexBytes
import Derived.Test.YtjhlpkhfdghngaaGreatDoorXZ9
import Derived.Test.YtjhlpkhfdghngaaGreatDoorXZ7
import Derived.Deep.DeepCutAuto
import Derived.Test.YtjhlpkhfdghngaaGreatDoorXZ6
import Derived.Test.YtjhlpkhfdghngaaGreatDoorXZ8
import Derived.Test.YtjhlpkhfdghngaaGreatDoorXZ5
import Derived.Test.YtjhlpkhfdghngaaGreatDoorXZ3
import Derived.Test.YtjhlpkhfdghngaaGreatDoorXZ10
import Derived.Test.YtjhlpkhfdghngaaGreatDoorXZ15
import Derived.Test.YtjhlpkhfdghngaaGreatDoorXZ14
import Derived.DeepKeys
import Derived.Laws.StructEq
import Derived.Test.YtjhlpkhfdghngaaGreatDoorXZ4
import Derived.Carry
import Derived.OpenShut
import Derived.ChangeSame
import Derived.RowKit
import GoSem.PinnedTables
namespace Go.Proofs.YtjhlpkhfdghngaaGreatDoor
open Go.RowKit Go.Sort
set_option linter.unusedVariables false
set_option linter.unusedSimpArgs false
set_option maxRecDepth 100000
def openC : CondV := ⟨0, 1099511627777, ⟨#[]⟩, [], [], [], 0⟩
def rOne (sg : Bool) : RuleV := ⟨(⟨#[114, 49]⟩ : ByteArray), (⟨#[97, 99, 109, 101, 47, 110, 101, 119, 115, 47, 42, 42]⟩ : ByteArray), [(⟨#[104, 111, 116]⟩ : ByteArray)], 10, 0, 0, 0, [], openC, sg, 0, ⟨#[]⟩⟩
def rTwo (sg : Bool) : RuleV := ⟨(⟨#[114, 50]⟩ : ByteArray), (⟨#[97, 99, 109, 101, 47, 42, 42]⟩ : ByteArray), [], 100, 50, 1000, 5, [], openC, sg, 0, ⟨#[]⟩⟩
def mOne (T : Nat) (sg : Bool) : RuleM := ⟨rOne sg, some ⟨T, 0, none⟩, 1, none, 0, [], ⟨none, 0, none, 0, none, 0⟩⟩
def mTwo (sg : Bool) : RuleM := ⟨rTwo sg, none, 0, none, 0, [], ⟨none, 0, none, 0, none, 0⟩⟩
theorem open_fits : CondFits openC := ⟨by decide, by decide, by decide, by decide, by decide, by decide⟩
theorem one_valid (sg : Bool) : validR (rOne sg) = true := by cases sg <;> decide +kernel
theorem two_valid (sg : Bool) : validR (rTwo sg) = true := by cases sg <;> decide +kernel
theorem one_fits (sg : Bool) : RuleFits (rOne sg) := by
  cases sg <;> exact ⟨by decide +kernel, by decide +kernel, by decide +kernel, by decide +kernel, by decide +kernel, by decide +kernel, fun y hy => (by cases hy), open_fits⟩
theorem two_fits (sg : Bool) : RuleFits (rTwo sg) := by
  cases sg <;> exact ⟨by decide +kernel, by decide +kernel, by decide +kernel, by decide +kernel, by decide +kernel, by decide +kernel, fun y hy => (by cases hy), open_fits⟩
theorem open_tx : (textE openC).1.size ≤ 1000000 := by decide +kernel
theorem one_ok (T : Nat) (sg : Bool) : NameOk (mOne T sg) := ⟨rule_ok (one_valid sg), one_fits sg, Nat.le_refl _, fun y hy => (by cases hy), open_tx⟩
theorem two_ok (sg : Bool) : NameOk (mTwo sg) := ⟨rule_ok (two_valid sg), two_fits sg, Nat.le_refl _, fun y hy => (by cases hy), open_tx⟩
theorem ex_reads {W : World} {g T : Nat} {sg : Bool} (hr : RowV W g 33 (exOne T false ++ exTwo sg)) (ht : RowV W T 9 [.string (⟨#[104, 111, 116]⟩ : ByteArray)]) : RulesRead W (some ⟨g, 0, none⟩) 2 [mOne T false, mTwo sg] := by
  refine ⟨rfl, ⟨rfl, fun _ => ⟨g, 0, rfl, fun j u hu => ?_⟩⟩, ?_⟩
  · rw [Nat.zero_add]
    exact RowV.cell hr hu
  · intro x hx
    simp only [List.mem_cons, List.not_mem_nil, or_false] at hx
    rcases hx with rfl | rfl
    · exact ⟨⟨rfl, fun _ => ⟨T, 0, rfl, fun j u hu => by rw [Nat.zero_add]; exact RowV.cell ht hu⟩⟩, Reads.nil_ _ _ _, rfl, fun y hy => (by cases hy), ⟨Reads.nil_ _ _ _, Reads.nil_ _ _ _, Reads.nil_ _ _ _⟩⟩
    · exact ⟨Reads.nil_ _ _ _, Reads.nil_ _ _ _, rfl, fun y hy => (by cases hy), ⟨Reads.nil_ _ _ _, Reads.nil_ _ _ _, Reads.nil_ _ _ _⟩⟩
theorem check_ex : checkP (⟨#[97, 99, 109, 101]⟩ : ByteArray) 9 [rOne false, rTwo false] = 0 := by decide +kernel
theorem tx1 : sortL (lists [(⟨#[104, 111, 116]⟩ : ByteArray), (⟨#[120]⟩ : ByteArray)]) = [[104, 111, 116], [120]] := sortL_of (by decide) (by decide)
theorem tx2 : tagsL [(⟨#[104, 111, 116]⟩ : ByteArray), (⟨#[120]⟩ : ByteArray)] = [104, 111, 116, 44, 120] := by
  unfold tagsL
  rw [tx1]
  show Lib.join (Lib.compact [[104, 111, 116], [120]]) [44] = [104, 111, 116, 44, 120]
  kernel_rfl
theorem tg1 : hasTagB (⟨#[104, 111, 116, 44, 120]⟩ : ByteArray) (⟨#[104, 111, 116]⟩ : ByteArray) = true := by
  have h1 : splitB 44 (⟨#[104, 111, 116, 44, 120]⟩ : ByteArray) = [(⟨#[104, 111, 116]⟩ : ByteArray), (⟨#[120]⟩ : ByteArray)] := by kernel_rfl
  have h : tagsR [(⟨#[104, 111, 116]⟩ : ByteArray), (⟨#[120]⟩ : ByteArray)] = ((⟨#[104, 111, 116, 44, 120]⟩ : ByteArray), 0) := by
    unfold tagsR
    rw [tx2, if_neg (by decide +kernel), if_neg (by decide)]
    rfl
  have h2 : splitR (⟨#[104, 111, 116, 44, 120]⟩ : ByteArray) = ([(⟨#[104, 111, 116]⟩ : ByteArray), (⟨#[120]⟩ : ByteArray)], 0) := by
    unfold splitR
    rw [h1, h, if_neg (by decide +kernel), if_pos (by decide +kernel)]
  unfold hasTagB
  rw [h2]
  show Lib.containsS [(⟨#[104, 111, 116]⟩ : ByteArray), (⟨#[120]⟩ : ByteArray)] (⟨#[104, 111, 116]⟩ : ByteArray) = true
  kernel_rfl
theorem tg2 : hasTagB (⟨#[120]⟩ : ByteArray) (⟨#[104, 111, 116]⟩ : ByteArray) = false := by
  have h1 : splitB 44 (⟨#[120]⟩ : ByteArray) = [(⟨#[120]⟩ : ByteArray)] := by kernel_rfl
  have h : tagsR [(⟨#[120]⟩ : ByteArray)] = ((⟨#[120]⟩ : ByteArray), 0) := by
    rw [tags_one, if_pos (by decide +kernel)]
  have h2 : splitR (⟨#[120]⟩ : ByteArray) = ([(⟨#[120]⟩ : ByteArray)], 0) := by
    unfold splitR
    rw [h1, h, if_neg (by decide +kernel), if_pos (by decide +kernel)]
  unfold hasTagB
  rw [h2]
  show Lib.containsS [(⟨#[120]⟩ : ByteArray)] (⟨#[104, 111, 116]⟩ : ByteArray) = false
  kernel_rfl
theorem m1 : matchB (⟨#[97, 99, 109, 101, 47, 110, 101, 119, 115, 47, 42, 42]⟩ : ByteArray) (⟨#[97, 99, 109, 101, 47, 110, 101, 119, 115, 47, 97]⟩ : ByteArray) = true := by decide +kernel
theorem m2 : matchB (⟨#[97, 99, 109, 101, 47, 42, 42]⟩ : ByteArray) (⟨#[97, 99, 109, 101, 47, 110, 101, 119, 115, 47, 97]⟩ : ByteArray) = true := by decide +kernel
theorem m3 : matchB (⟨#[97, 99, 109, 101, 47, 110, 101, 119, 115, 47, 42, 42]⟩ : ByteArray) (⟨#[97, 99, 109, 101]⟩ : ByteArray) = false := by decide +kernel
theorem m4 : matchB (⟨#[97, 99, 109, 101, 47, 42, 42]⟩ : ByteArray) (⟨#[97, 99, 109, 101]⟩ : ByteArray) = true := by decide +kernel
theorem m5 : matchB (⟨#[97, 99, 109, 101, 47, 110, 101, 119, 115, 47, 42, 42]⟩ : ByteArray) (⟨#[98, 111, 108, 116, 47, 97]⟩ : ByteArray) = false := by decide +kernel
theorem m6 : matchB (⟨#[97, 99, 109, 101, 47, 42, 42]⟩ : ByteArray) (⟨#[98, 111, 108, 116, 47, 97]⟩ : ByteArray) = false := by decide +kernel
theorem ch1 (T : Nat) : chooseX [mOne T false, mTwo false] (⟨#[97, 99, 109, 101, 47, 110, 101, 119, 115, 47, 97]⟩ : ByteArray) (⟨#[104, 111, 116, 44, 120]⟩ : ByteArray) = 0 := by
  simp [chooseX, idxA, mtX, mOne, mTwo, rOne, rTwo, m1, tg1]
theorem ch2 (T : Nat) : chooseX [mOne T false, mTwo false] (⟨#[97, 99, 109, 101, 47, 110, 101, 119, 115, 47, 97]⟩ : ByteArray) (⟨#[120]⟩ : ByteArray) = 1 := by
  simp [chooseX, idxA, mtX, mOne, mTwo, rOne, rTwo, m1, m2, tg2]
theorem ch3 (T : Nat) : chooseX [mOne T false, mTwo false] (⟨#[97, 99, 109, 101]⟩ : ByteArray) ⟨#[]⟩ = 1 := by
  simp [chooseX, idxA, mtX, mOne, mTwo, rOne, rTwo, m3, m4]
theorem ch4 (T : Nat) : chooseX [mOne T false, mTwo false] (⟨#[98, 111, 108, 116, 47, 97]⟩ : ByteArray) ⟨#[]⟩ = -1 := by
  simp [chooseX, idxA, mtX, mOne, mTwo, rOne, rTwo, m5, m6]
theorem m7 : matchB (⟨#[97, 99, 109, 101, 47, 110, 101, 119, 115, 47, 42, 42]⟩ : ByteArray) (⟨#[97, 99, 109, 101, 47, 120]⟩ : ByteArray) = false := by decide +kernel
theorem m8 : matchB (⟨#[97, 99, 109, 101, 47, 42, 42]⟩ : ByteArray) (⟨#[97, 99, 109, 101, 47, 120]⟩ : ByteArray) = true := by decide +kernel
theorem po1 (T : Nat) : possX (⟨#[97, 99, 109, 101, 47, 110, 101, 119, 115, 47, 97]⟩ : ByteArray) [mOne T false, mTwo false] 0 = [0, 1] := by
  simp [possX, mOne, mTwo, rOne, rTwo, m1, m2]
theorem po2 (T : Nat) : possX (⟨#[97, 99, 109, 101, 47, 120]⟩ : ByteArray) [mOne T false, mTwo false] 0 = [1] := by
  simp [possX, mOne, mTwo, rOne, rTwo, m7, m8]
def askEx : AskV := ⟨(⟨#[97, 99, 109, 101, 47, 120]⟩ : ByteArray), (⟨#[98, 111, 98]⟩ : ByteArray), (⟨#[100, 101]⟩ : ByteArray), 0, 0, 0⟩
theorem holds_ex : holdsC openC askEx = true := by decide +kernel
def dig1 : Array Value := (b8 (Sha.ofD 22 ((partsP (⟨#[97, 99, 109, 101]⟩ : ByteArray) 9 [rOne false, rTwo false]).map nb))).toArray
def dig2 : Array Value := (b8 (Sha.ofD 22 ((partsP (⟨#[97, 99, 109, 101]⟩ : ByteArray) 9 [rOne false, rTwo true]).map nb))).toArray
theorem dig_ne (x y : Operand) (W : World) : (do eqGuard .neq 38 x y (.agg dig1) (.agg dig2); binOp .neq 38 (.agg dig1) (.agg dig2)).run Tryz.prog W = .ok (.bool true) W := by kernel_rfl
end Go.Proofs.YtjhlpkhfdghngaaGreatDoor
namespace Go.Proofs.YtjhlpkhfdghngaaGreatDoor
open Go.RowKit Go.Sort
set_option linter.unusedVariables false
set_option linter.unusedSimpArgs false
set_option maxRecDepth 100000
def exStamp : StampV := ⟨⟨#[]⟩, ⟨#[]⟩, 200, 0, ⟨0, 0, 0, 0, 0, 0, 0, 0, 0, 0, 0, 0, 0, 0, 0, 0⟩, ⟨#[]⟩, 20, 30, 0, 0, ⟨0, 0, 0, 0, 0, 0, 0, 0, 0, 0, 0, 0, 0, 0, 0, 0⟩⟩
def exPol (g : Nat) : Array Value := #[.string (⟨#[97, 99, 109, 101]⟩ : ByteArray), .int .i64 9, .slice (some ⟨g, 0, none⟩) 2 2]
def stampZ : Array Value := (StampV.cells ⟨⟨#[]⟩, ⟨#[]⟩, 0, 0, ⟨0, 0, 0, 0, 0, 0, 0, 0, 0, 0, 0, 0, 0, 0, 0, 0⟩, ⟨#[]⟩, 0, 0, 0, 0, ⟨0, 0, 0, 0, 0, 0, 0, 0, 0, 0, 0, 0, 0, 0, 0, 0⟩⟩).toArray
theorem run_st (W : World) : (Instr.build 82 #[(2, .int .i64 200), (6, .agg #[.int .i64 20, .int .i64 30])]).run Tryz.prog W = .ok (.agg exStamp.cells.toArray) W := by kernel_rfl
structure PolAt (g T pb : Nat) (sg : Bool) (W : World) : Prop where
  row : RowV W g 33 (exOne T false ++ exTwo sg)
  tags : RowV W T 9 [.string (⟨#[104, 111, 116]⟩ : ByteArray)]
  p : Box1 W pb 24 (exPol g)
theorem PolAt.keep {g T pb : Nat} {sg : Bool} {W W' : World} (h : PolAt g T pb sg W) (hb : Below W.heap.size W W') : PolAt g T pb sg W' := ⟨h.row.keep hb, h.tags.keep hb, h.p.keep hb⟩
theorem PolAt.reads {g T pb : Nat} {sg : Bool} {W : World} (h : PolAt g T pb sg W) : RulesRead W (some ⟨g, 0, none⟩) 2 [mOne T false, mTwo sg] := ex_reads h.row h.tags
theorem PolAt.ld1 {g T pb : Nat} {sg : Bool} {W : World} (h : PolAt g T pb sg W) : (loadVar 33 ⟨g, 0, none⟩).run Tryz.prog W = .ok (.agg (exOne T false).toArray) W :=
  rule_load W g 0 (mOne T false) (fun j u hu => by
    rw [Nat.zero_add]
    refine RowV.cell h.row ?_
    have hu2 : (exOne T false)[j]? = some u := hu
    rw [List.getElem?_append_left (List.getElem?_eq_some_iff.1 hu2).1]
    exact hu2)
theorem PolAt.ld2 {g T pb : Nat} {sg : Bool} {W : World} (h : PolAt g T pb sg W) : (loadVar 33 ⟨g, 18, none⟩).run Tryz.prog W = .ok (.agg (exTwo sg).toArray) W :=
  rule_load W g 18 (mTwo sg) (fun j u hu => by
    refine RowV.cell h.row ?_
    rw [List.getElem?_append_right (by show 18 ≤ 18 + j; omega)]
    show (exTwo sg)[18 + j - 18]? = some u
    rw [show 18 + j - 18 = j by omega]
    exact hu)
theorem PolAt.ldp {g T pb : Nat} {sg : Bool} {W : World} (h : PolAt g T pb sg W) : (loadVar 24 ⟨pb, 0, none⟩).run Tryz.prog W = .ok (.agg (exPol g)) W :=
  run_loadVar_row (P := Tryz.prog) W pb _ 24 (exPol g) _ _ h.p Tryz.underlying24 rfl inf3
theorem ex_fits (T : Nat) (sg : Bool) : ∀ x ∈ [mOne T false, mTwo sg], RuleFits x.r := by
  intro x hx
  simp only [List.mem_cons, List.not_mem_nil, or_false] at hx
  rcases hx with rfl | rfl
  · exact one_fits false
  · exact two_fits sg
theorem ex_names (T : Nat) (sg : Bool) : ∀ x ∈ [mOne T false, mTwo sg], NameOk x := by
  intro x hx
  simp only [List.mem_cons, List.not_mem_nil, or_false] at hx
  rcases hx with rfl | rfl
  · exact one_ok T false
  · exact two_ok sg
theorem ex_rfits (T : Nat) (sg : Bool) : RulesFit [mOne T false, mTwo sg] := by
  refine ⟨by simp, fun x hx => ?_, fun x hx => ?_⟩
  · have := (ex_fits T sg x hx).pat; omega
  · have := (ex_fits T sg x hx).nt; omega
theorem ex_check {g T pb : Nat} {W : World} (h : PolAt g T pb false W) (hE : Env W) : Calls Tryz.prog 14 #[.agg (exPol g)] W (Ret W (.int .i64 0)) := by
  have := check_any (⟨#[97, 99, 109, 101]⟩ : ByteArray) 9 (some ⟨g, 0, none⟩) 2 2 [mOne T false, mTwo false] W h.reads (ex_fits T false) (by decide) hE
  rw [show [mOne T false, mTwo false].map (·.r) = [rOne false, rTwo false] from rfl, check_ex] at this
  exact this
theorem ex_choose {g T pb : Nat} {W : World} (h : PolAt g T pb false W) (hE : Env W) (a t : ByteArray) (k : Int) (ha : a.size ≤ 100000) (ht : t.size ≤ 100000) (hk : chooseX [mOne T false, mTwo false] a t = k) : Calls Tryz.prog 25 #[.slice (some ⟨g, 0, none⟩) 2 2, .string a, .string t] W (Ret W (.int .i64 k)) := by
  rw [← hk]
  exact choose_any (some ⟨g, 0, none⟩) 2 2 _ a t W h.reads (ex_rfits T false) ha ht hE
theorem ex_possible {g T pb : Nat} {W : World} (h : PolAt g T pb false W) (hE : Env W) (a : ByteArray) (l : List Nat) (ha : a.size ≤ 100000) (hk : possX a [mOne T false, mTwo false] 0 = l) : Calls Tryz.prog 43 #[.slice (some ⟨g, 0, none⟩) 2 2, .string a] W (IntsPost l W) := by
  rw [← hk]
  exact possible_any (some ⟨g, 0, none⟩) 2 2 _ a W h.reads (ex_rfits T false) ha hE
theorem ex_name {g T pb : Nat} {sg : Bool} {W : World} (h : PolAt g T pb sg W) (hE : Env W) (hT : Tab W) (hK : Ks W) (D : Array Value) (hD : D = (b8 (Sha.ofD 22 ((partsP (⟨#[97, 99, 109, 101]⟩ : ByteArray) 9 [rOne false, rTwo sg]).map nb))).toArray) : Calls Tryz.prog 16 #[.agg (exPol g)] W (Ret W (.agg D)) := by
  rw [hD]
  exact name_any (⟨#[97, 99, 109, 101]⟩ : ByteArray) 9 (some ⟨g, 0, none⟩) 2 2 [mOne T false, mTwo sg] W h.reads (ex_names T sg) (by omega) (by decide) (by omega) hE hT hK
theorem ex_maxAge (status state v : Int) (hs : state = 0 ∨ state = 1 ∨ state = 2) (hv : maxAgeR (rTwo false) status state = v) (W : World) : Calls Tryz.prog 44 #[.agg (exTwo false).toArray, .int .i64 status, .int .i64 state] W (Ret W (.int .i64 v)) := by
  rw [← hv]
  exact maxAge_any (mTwo false) (two_ok false).ok status state hs W
theorem ex_until (W : World) : Calls Tryz.prog 45 #[.agg (exTwo false).toArray, .agg exStamp.cells.toArray, .int .i64 0] W (Ret W (.int .i64 120)) :=
  until_any (mTwo false) (two_ok false).ok exStamp 0 (by decide) (by decide) (.inl rfl) W
theorem ex_young (hi : Int) (b : Bool) (hb : youngR (rTwo false) 200 20 hi 0 = b) (W : World) : Calls Tryz.prog 46 #[.agg (exTwo false).toArray, .agg exStamp.cells.toArray, .agg #[.int .i64 110, .int .i64 hi], .int .i64 0] W (Ret W (.bool b)) := by
  rw [← hb]
  exact young_any (mTwo false) (two_ok false).ok exStamp 110 hi 0 (by decide) (by decide) (.inl rfl) W
theorem ex_usable (W : World) : Calls Tryz.prog 47 #[.agg (exTwo false).toArray, .agg exStamp.cells.toArray, .agg #[.int .i64 110, .int .i64 120], .int .i64 0, .int .i64 1] W (Ret W (.bool false)) :=
  usable_any (mTwo false) (two_ok false).ok exStamp 110 120 0 1 (by decide) (by decide) (.inl rfl) W
theorem ex_permits {g T pb : Nat} {sg : Bool} {W : World} (h : PolAt g T pb sg W) (hE : Env W) : Calls Tryz.prog 29 #[.agg (exOne T false).toArray, .agg #[.string (⟨#[97, 99, 109, 101, 47, 120]⟩ : ByteArray), .string (⟨#[98, 111, 98]⟩ : ByteArray), .string (⟨#[100, 101]⟩ : ByteArray), .int .i64 0, .int .i64 0, .int .i64 0]] W (Ret W (.bool true)) := by
  have := permits_any (mOne T false) askEx W (h.reads.each _ (by simp)) (one_fits false).c ⟨by decide, by decide, by decide⟩ hE
  rw [show (mOne T false).r.allow = openC from rfl, holds_ex] at this
  exact this
end Go.Proofs.YtjhlpkhfdghngaaGreatDoor
namespace Go.Proofs.YtjhlpkhfdghngaaGreatDoor
open Go.RowKit Go.Sort
set_option linter.unusedVariables false
set_option linter.unusedSimpArgs false
set_option maxRecDepth 100000
theorem same01 (l : List Nat) (n : Nat) (hn : l.length = n) (hb : n ≤ 1000000) (A : Option Addr) (c : Nat) (W : World) (hA : Reads W 1 A n (i64s l)) : Calls Tryz.prog 42 #[.slice A n c, .slice (some ⟨W.heap.size, 0, none⟩) n n] (W.alloc (.cells (i64s l).toArray 3)) (Ret (W.alloc (.cells (i64s l).toArray 3)) (.bool true)) :=
  rSame22_eq A (some ⟨W.heap.size, 0, none⟩) n c n l _ (hA.keep ((Below.refl _ _).alloc (Nat.le_refl _) _)) (reads_new W 3 (i64s l) n (by unfold i64s; rw [List.length_map]; exact hn)) hb
theorem same_two (A : Option Addr) (c : Nat) (W : World) (hA : Reads W 1 A 2 (i64s [0, 1])) : Calls Tryz.prog 42 #[.slice A 2 c, .slice (some ⟨W.heap.size, 0, none⟩) 2 2] (W.alloc (.cells #[.int .i64 0, .int .i64 1] 3)) (Ret (W.alloc (.cells #[.int .i64 0, .int .i64 1] 3)) (.bool true)) :=
  same01 [0, 1] 2 rfl (by omega) A c W hA
theorem same_one (A : Option Addr) (c : Nat) (W : World) (hA : Reads W 1 A 1 (i64s [1])) : Calls Tryz.prog 42 #[.slice A 1 c, .slice (some ⟨W.heap.size, 0, none⟩) 1 1] (W.alloc (.cells #[.int .i64 1] 3)) (Ret (W.alloc (.cells #[.int .i64 1] 3)) (.bool true)) :=
  same01 [1] 1 rfl (by omega) A c W hA
def PossN (n : Nat) (l : List Nat) (w : World) (e : Ending) (w' : World) : Prop := ∃ A c, e = .returned (.slice A n c) ∧ Reads w' 1 A n (i64s l) ∧ Below w.heap.size w w'
theorem ex_poss2 {g T pb : Nat} {W : World} (h : PolAt g T pb false W) (hE : Env W) : Calls Tryz.prog 43 #[.slice (some ⟨g, 0, none⟩) 2 2, .string (⟨#[97, 99, 109, 101, 47, 110, 101, 119, 115, 47, 97]⟩ : ByteArray)] W (PossN 2 [0, 1] W) :=
  ex_possible h hE _ [0, 1] (by decide) (po1 T)
theorem ex_poss1 {g T pb : Nat} {W : World} (h : PolAt g T pb false W) (hE : Env W) : Calls Tryz.prog 43 #[.slice (some ⟨g, 0, none⟩) 2 2, .string (⟨#[97, 99, 109, 101, 47, 120]⟩ : ByteArray)] W (PossN 1 [1] W) :=
  ex_possible h hE _ [1] (by decide) (po2 T)
structure SanS (w : World) (g T pb : Nat) (W : World) : Prop where
  a : PolAt g T pb false W
  b : Below w.heap.size w W
theorem SanS.keep {w W W' : World} {g T pb : Nat} (h : SanS w g T pb W) (hb : Below W.heap.size W W') : SanS w g T pb W' := ⟨h.a.keep hb, bstep h.b hb⟩
structure SanT (w : World) (g T pb sb : Nat) (W : World) : Prop where
  a : PolAt g T pb false W
  s : Box1 W sb 82 exStamp.cells.toArray
  b : Below w.heap.size w W
theorem SanT.keep {w W W' : World} {g T pb sb : Nat} (h : SanT w g T pb sb W) (hb : Below W.heap.size W W') : SanT w g T pb sb W' := ⟨h.a.keep hb, h.s.keep hb, bstep h.b hb⟩
structure SanU (w : World) (g T pb sb g2 T2 pb2 : Nat) (sg : Bool) (W : World) : Prop where
  a : PolAt g T pb false W
  s : Box1 W sb 82 exStamp.cells.toArray
  a2 : PolAt g2 T2 pb2 sg W
  b : Below w.heap.size w W
theorem SanU.keep {w W W' : World} {g T pb sb g2 T2 pb2 : Nat} {sg : Bool} (h : SanU w g T pb sb g2 T2 pb2 sg W) (hb : Below W.heap.size W W') : SanU w g T pb sb g2 T2 pb2 sg W' := ⟨h.a.keep hb, h.s.keep hb, h.a2.keep hb, bstep h.b hb⟩
set_option maxHeartbeats 8000000 in
theorem san22_any (w : World) (hE : Env w) (hT : Tab w) (hK : Ks w) : Calls Tryz.prog 11 #[] w (Ret w (.bool true)) := by
  have HE := Lib.hid hE; have HT := Lib.hid hT; have HK := Lib.hid hK
  have HC1 := Lib.hid ch1; have HC2 := Lib.hid ch2; have HC3 := Lib.hid ch3; have HC4 := Lib.hid ch4; have HP1 := Lib.hid po1; have HP2 := Lib.hid po2
  have HS1 : Hid True := Lib.hid trivial
  obtain ⟨X2, hX2⟩ : ∃ X, X = (exTwo false).toArray := ⟨_, rfl⟩
  obtain ⟨SX, hSX⟩ : ∃ X, X = exStamp.cells.toArray := ⟨_, rfl⟩
  have hm1 := fun W => ex_maxAge 200 0 100 (by decide) (by decide) W
  have hm2 := fun W => ex_maxAge 200 1 150 (by decide) (by decide) W
  have hm3 := fun W => ex_maxAge 200 2 1100 (by decide) (by decide) W
  have hm4 := fun W => ex_maxAge 404 2 5 (by decide) (by decide) W
  have hun := ex_until
  have hy1 := ex_young 120 true (by decide)
  have hy2 := ex_young 121 false (by decide)
  have hus := ex_usable
  have hx2 : ∀ {g T pb : Nat} (W : World), PolAt g T pb false W → (loadVar 33 ⟨g, 18, none⟩).run Tryz.prog W = .ok (.agg (exTwo false).toArray) W := fun W h => h.ld2
  simp only [← hX2, ← hSX] at hm1 hm2 hm3 hm4 hun hy1 hy2 hus hx2
  have HM1 := Lib.hid hm1; have HM2 := Lib.hid hm2; have HM3 := Lib.hid hm3; have HM4 := Lib.hid hm4; have HUN := Lib.hid hun; have HY1 := Lib.hid hy1; have HY2 := Lib.hid hy2; have HUS := Lib.hid hus
  have HX2 : Hid (∀ (pb : Nat) (W : World), PolAt (w.heap.size + 5) (w.heap.size + 2) pb false W → (loadVar 33 ⟨w.heap.size + 5, 18, none⟩).run Tryz.prog W = .ok (.agg X2) W) := Lib.hid fun pb W h => hx2 W h
  have HSX := Lib.hid hSX; have HXE := Lib.hid hX2
  clear hX2 hSX hE hT hK hm1 hm2 hm3 hm4 hun hy1 hy2 hus hx2
  go_enter Tryz.func11, Tryz.ntmps11
  go_upto_region 3 with (go_at_call 41; refine (example22_any _).mono ?_; rintro e w1 ⟨rfl, hrow, htags, hb1⟩)
  obtain ⟨pb, hpb⟩ : ∃ pb, pb = w1.heap.size := ⟨_, rfl⟩
  rw [← hpb]
  generalize hw2 : World.alloc _ _ = w2
  have hS : SanS w (w.heap.size + 5) (w.heap.size + 2) pb w2 := by
    rw [← hw2]
    have hbb : Below w1.heap.size w1 (w1.alloc (.cells #[.string (⟨#[97, 99, 109, 101]⟩ : ByteArray), .int .i64 9, .slice (some ⟨w.heap.size + 5, 0, none⟩) 2 2] 24)) := (Below.refl _ _).alloc (Nat.le_refl _) _
    exact ⟨⟨hrow.keep hbb, htags.keep hbb, by rw [hpb]; exact heap_alloc_new w1 _⟩, bstep hb1 hbb⟩
  clear hw2 hpb hrow htags hb1
  clear w1
  go_upto_region 4 with (first
    | (refine wpList_load_addr rfl 24 _ rfl ⟨pb, 0, none⟩ (.agg (exPol (w.heap.size + 5))) rfl hS.a.ldp ?_)
    | (go_at_call 14; refine (ex_check hS.a (HE.out.keep hS.b)).mono ?_; (rintro e w' ⟨rfl, hb'⟩; replace hS := hS.keep hb'; clear hb'))
    | (go_at_call 25; refine (ex_choose hS.a (HE.out.keep hS.b) _ _ 0 (by decide) (by decide) (HC1.out _)).mono ?_; clear HC1; (rintro e w' ⟨rfl, hb'⟩; replace hS := hS.keep hb'; clear hb')) | (go_at_call 25; refine (ex_choose hS.a (HE.out.keep hS.b) _ _ 1 (by decide) (by decide) (HC2.out _)).mono ?_; clear HC2; (rintro e w' ⟨rfl, hb'⟩; replace hS := hS.keep hb'; clear hb')) | (go_at_call 25; refine (ex_choose hS.a (HE.out.keep hS.b) _ _ 1 (by decide) (by decide) (HC3.out _)).mono ?_; clear HC3; (rintro e w' ⟨rfl, hb'⟩; replace hS := hS.keep hb'; clear hb')) | (go_at_call 25; refine (ex_choose hS.a (HE.out.keep hS.b) _ _ (-1) (by decide) (by decide) (HC4.out _)).mono ?_; clear HC4; (rintro e w' ⟨rfl, hb'⟩; replace hS := hS.keep hb'; clear hb')))
  go_upto_region 5 with (first | (go_at_call 43; clear HP1; refine (ex_poss2 hS.a (HE.out.keep hS.b)).mono ?_; rintro e w' ⟨A1, d1, rfl, hr1, hb'⟩; replace hS := hS.keep hb'; clear hb') | (go_at_call 42; clear HS1; refine (same_two A1 d1 _ hr1).mono ?_; rintro e w' ⟨rfl, hb'⟩; replace hS := (hS.keep ((Below.refl _ _).alloc (Nat.le_refl _) _)).keep hb'; clear hb' hr1) | (go_at_call 43; clear HP2; refine (ex_poss1 hS.a (HE.out.keep hS.b)).mono ?_; rintro e w' ⟨A1, d1, rfl, hr1, hb'⟩; replace hS := hS.keep hb'; clear hb') | (go_at_call 42; refine (same_one A1 d1 _ hr1).mono ?_; rintro e w' ⟨rfl, hb'⟩; replace hS := (hS.keep ((Below.refl _ _).alloc (Nat.le_refl _) _)).keep hb'; clear hb' hr1))
  go_upto_region 6 with (first | (refine wpList_load_addr rfl 33 _ rfl ⟨w.heap.size + 5, 18, none⟩ (.agg X2) rfl (HX2.out _ _ hS.a) ?_) | (go_big_want; refine wp_load_addr 33 _ rfl ⟨w.heap.size + 5, 18, none⟩ (.agg X2) rfl (HX2.out _ _ hS.a) ?_; simp only [Act.put, List.setIfInBounds_toArray, List.set_cons_succ, List.set_cons_zero]) | (go_at_call 44; refine (HM1.out _).mono ?_; clear HM1; (rintro e w' ⟨rfl, hb'⟩; replace hS := hS.keep hb'; clear hb')) | (go_at_call 44; refine (HM2.out _).mono ?_; clear HM2; (rintro e w' ⟨rfl, hb'⟩; replace hS := hS.keep hb'; clear hb')) | (go_at_call 44; refine (HM3.out _).mono ?_; clear HM3; (rintro e w' ⟨rfl, hb'⟩; replace hS := hS.keep hb'; clear hb')) | (go_at_call 44; refine (HM4.out _).mono ?_; clear HM4; (rintro e w' ⟨rfl, hb'⟩; replace hS := hS.keep hb'; clear hb')))
  have hsb := run_st
  simp only [← HSX.out] at hsb
  have HSB := Lib.hid hsb
  have sS : SX.size = 41 := by rw [HSX.out]; rfl
  have iS : (Tryz.prog.info? 82).map (·.size) = some SX.size := by rw [sS]; exact infStamp
  have zS : stampZ.size = SX.size := by rw [sS]; rfl
  have oS : SX.all (·.oneCell') = true := by rw [HSX.out, List.all_toArray]; rfl
  have HIS := Lib.hid iS; have HZS := Lib.hid zS; have HOS := Lib.hid oS
  clear hsb sS iS zS oS
  obtain ⟨sb, hsb⟩ : ∃ sb, sb = w'.heap.size := ⟨_, rfl⟩
  have HSBB := Lib.hid hsb
  clear hsb
  go_upto_region 7 with (first
    | (refine wpList_build_as rfl 82 _ rfl _ (by kernel_rfl) _ (HSB.out _) ?_)
    | (refine wpList_store_row rfl 82 _ _ rfl w'.heap.size SX rfl rfl _ stampZ ((heap_alloc_new w' _).trans rfl) HIS.out HZS.out HOS.out ?_))
  rw [← HSBB.out]
  generalize hw6 : World.setRow _ _ _ = w6
  have hT6 : SanT w (w.heap.size + 5) (w.heap.size + 2) pb sb w6 := by
    have hbb : Below w'.heap.size w' w6 := by rw [← hw6]; exact below_setRow ((Below.refl _ _).alloc (Nat.le_refl _) _) (by rw [HSBB.out]; exact Nat.le_refl _) _
    refine ⟨hS.a.keep hbb, ?_, bstep hS.b hbb⟩
    rw [← hw6, ← HSX.out, HSBB.out]
    exact setRow_heap _ _ _ _ _ _ (heap_alloc_new w' _)
  clear hw6 hS HSBB
  clear w'
  have HT6 := Lib.hid hT6
  clear hT6
  have HSL : Hid (∀ (W : World), Box1 W sb 82 exStamp.cells.toArray → (loadVar 82 ⟨sb, 0, none⟩).run Tryz.prog W = .ok (.agg SX) W) := Lib.hid fun W h => by rw [HSX.out]; exact h.stamp rfl
  refine wp_det 23 (by kernel_rfl) (by kernel_rfl) (by kernel_rfl) (fun i => [.slice (some ⟨w.heap.size + 5, 0, none⟩) 2 2, .pointer (some ⟨w.heap.size + 5, 18, none⟩), .agg X2, .agg SX, .int .i64 120, .bool true, .bool true, .slice (some ⟨w.heap.size + 5, 0, none⟩) 2 2, .pointer (some ⟨w.heap.size + 5, 18, none⟩), .agg X2, .agg SX, .agg #[.int .i64 110, .int .i64 120], .bool true, .bool true, .bool true, .slice (some ⟨w.heap.size + 5, 0, none⟩) 2 2, .pointer (some ⟨w.heap.size + 5, 18, none⟩), .agg X2, .agg SX, .agg #[.int .i64 110, .int .i64 121], .bool false, .bool true, .bool true].getD i undef) (SanT w (w.heap.size + 5) (w.heap.size + 2) pb sb) (HT6.out.keep (Below.drew (Below.refl _ _))) (fun _ _ h hb => h.keep hb) ?_ ?_
  · simp only [putL, List.take_succ_cons, List.take_zero, List.drop_succ_cons, List.drop_zero, Act.put, List.setIfInBounds_toArray, List.set_cons_succ, List.set_cons_zero, List.getD_cons_zero, List.getD_cons_succ]
    refine ⟨fun W hS => ?_, fun W hS => ?_, fun W hS => ?_, fun W hS => ?_, fun W hS => ?_, fun W hS => ?_, fun W hS => ?_, fun W hS => ?_, fun W hS => ?_, fun W hS => ?_, fun W hS => ?_, fun W hS => ?_, fun W hS => ?_, fun W hS => ?_, fun W hS => ?_, fun W hS => ?_, fun W hS => ?_, fun W hS => ?_, fun W hS => ?_, fun W hS => ?_, fun W hS => ?_, fun W hS => ?_, fun W hS => ?_, trivial⟩
    all_goals
      have hbw := hS.b
      go_wp2_with (first | (refine wpList_load_addr rfl 33 _ rfl ⟨w.heap.size + 5, 18, none⟩ (.agg X2) rfl (HX2.out _ _ hS.a) ?_) | (go_big_want; first | (refine wp_load_addr 33 _ rfl ⟨w.heap.size + 5, 18, none⟩ (.agg X2) rfl (HX2.out _ _ hS.a) ?_; simp only [Act.put, List.setIfInBounds_toArray, List.set_cons_succ, List.set_cons_zero]) | (refine wp_load_addr 82 _ rfl ⟨sb, 0, none⟩ (.agg SX) rfl (HSL.out _ hS.s) ?_; simp only [Act.put, List.setIfInBounds_toArray, List.set_cons_succ, List.set_cons_zero])) | (refine wpList_load_addr rfl 82 _ rfl ⟨sb, 0, none⟩ (.agg SX) rfl (HSL.out _ hS.s) ?_) | (go_at_call 45; refine (HUN.out _).mono ?_; rintro e w2 ⟨rfl, hb2⟩) | (go_at_call 46; (first | (with_reducible refine (HY1.out _).mono ?_) | (with_reducible refine (HY2.out _).mono ?_)); rintro e w2 ⟨rfl, hb2⟩))
      exact ⟨rfl, rfl, belB⟩
  intro w7 hS7
  simp only [putL, List.take_succ_cons, List.take_zero, List.drop_succ_cons, List.drop_zero, Act.put, List.setIfInBounds_toArray, List.set_cons_succ, List.set_cons_zero, List.getD_cons_zero, List.getD_cons_succ]
  go_upto_region 9 with (go_at_call 41; refine (example22_any _).mono ?_; rintro e w8 ⟨rfl, hrow2, htags2, hb8⟩)
  have hS8 := hS7.keep hb8
  have hlg := RowV.lt hS7.a.row
  have hlt := RowV.lt hS7.a.tags
  have hlp : pb < w7.heap.size := cell_lt (hS7.a.p.cell (k := 0) rfl)
  have hls : sb < w7.heap.size := cell_lt (hS7.s.cell (k := 2) (v := .int .i64 200) rfl)
  obtain ⟨g2, hg2⟩ : ∃ g2, g2 = w7.heap.size + 5 := ⟨_, rfl⟩
  obtain ⟨T2, hT2⟩ : ∃ T2, T2 = w7.heap.size + 2 := ⟨_, rfl⟩
  rw [← hg2] at hrow2 ⊢
  rw [← hT2] at hrow2 htags2
  have hlg2 := RowV.lt hrow2
  obtain ⟨pb2, hpb2⟩ : ∃ pb2, pb2 = w8.heap.size := ⟨_, rfl⟩
  rw [← hpb2]
  generalize hw9 : World.alloc _ _ = w9
  have hU : SanU w (w.heap.size + 5) (w.heap.size + 2) pb sb g2 T2 pb2 false w9 := by
    have hbb : Below w8.heap.size w8 w9 := by rw [← hw9]; exact (Below.refl _ _).alloc (Nat.le_refl _) _
    refine ⟨hS8.a.keep hbb, hS8.s.keep hbb, ⟨hrow2.keep hbb, htags2.keep hbb, ?_⟩, bstep hS8.b hbb⟩
    rw [← hw9, hpb2]
    exact heap_alloc_new w8 _
  have hne : (w.heap.size + 5 ≠ g2 ∧ w.heap.size + 2 ≠ g2 ∧ pb ≠ g2 ∧ sb ≠ g2 ∧ T2 ≠ g2 ∧ pb2 ≠ g2 ∧ w.heap.size ≤ g2) := by
    have := hS7.b.size
    omega
  clear hw9 hS8 hS7 hlg hlt hlp hls hlg2 hg2 hT2 hpb2 hrow2 htags2 hb8
  clear w7 w8
  have y2 : w9.cell? ⟨pb2, 2, none⟩ = some (.slice (some ⟨g2, 0, none⟩) 2 2) := hU.a2.p.cell rfl
  have c33 : w9.cell? ⟨g2, 33, none⟩ = some (.bool false) := RowV.cell hU.a2.row rfl
  have f33 : w9.frozen? ⟨g2, 33, none⟩ = false := frozen_of_row w9 g2 33 _ _ hU.a2.row
  go_upto_region 10 with fail
  clear y2 c33 f33
  generalize hw10 : World.setCell _ _ _ = w10
  have hV : SanU w (w.heap.size + 5) (w.heap.size + 2) pb sb g2 T2 pb2 true w10 := by
    obtain ⟨n1, n2, n3, n4, n5, n6, n7⟩ := hne
    have ho : ∀ k, k ≠ g2 → w10.heap[k]? = w9.heap[k]? := fun k hk => by rw [← hw10]; exact heap_setCell_other w9 _ k _ hk
    refine ⟨⟨(ho _ n1).trans hU.a.row, (ho _ n2).trans hU.a.tags, (ho _ n3).trans hU.a.p⟩, (ho _ n4).trans hU.s, ⟨?_, (ho _ n5).trans hU.a2.tags, (ho _ n6).trans hU.a2.p⟩, ?_⟩
    · rw [← hw10]
      exact heap_setCell_same w9 g2 33 _ _ _ hU.a2.row
    · rw [← hw10]
      exact hU.b.setCell n7 _
  clear hw10 hU hne
  clear w9
  have HV := Lib.hid hV
  clear hV
  obtain ⟨D1, hD1⟩ : ∃ D, D = dig1 := ⟨_, rfl⟩
  obtain ⟨D2, hD2⟩ : ∃ D, D = dig2 := ⟨_, rfl⟩
  have hn1 : ∀ W, SanU w (w.heap.size + 5) (w.heap.size + 2) pb sb g2 T2 pb2 true W → Calls Tryz.prog 16 #[.agg (exPol (w.heap.size + 5))] W (Ret W (.agg D1)) := fun W h => ex_name h.a (HE.out.keep h.b) (HT.out.keep h.b) (HK.out.keep h.b) D1 hD1
  have hn2 : ∀ W, SanU w (w.heap.size + 5) (w.heap.size + 2) pb sb g2 T2 pb2 true W → Calls Tryz.prog 16 #[.agg (exPol g2)] W (Ret W (.agg D2)) := fun W h => ex_name h.a2 (HE.out.keep h.b) (HT.out.keep h.b) (HK.out.keep h.b) D2 hD2
  have hdn : ∀ (x y : Operand) (W : World), (do eqGuard .neq 38 x y (.agg D1) (.agg D2); binOp .neq 38 (.agg D1) (.agg D2)).run Tryz.prog W = .ok (.bool true) W := by rw [hD1, hD2]; exact dig_ne
  obtain ⟨X1, hX1⟩ : ∃ X, X = (exOne (w.heap.size + 2) false).toArray := ⟨_, rfl⟩
  have hx1 : ∀ W, PolAt (w.heap.size + 5) (w.heap.size + 2) pb false W → (loadVar 33 ⟨w.heap.size + 5, 0, none⟩).run Tryz.prog W = .ok (.agg X1) W := fun W h => by rw [hX1]; exact h.ld1
  have hpm : ∀ W, SanU w (w.heap.size + 5) (w.heap.size + 2) pb sb g2 T2 pb2 true W → Calls Tryz.prog 29 #[.agg X1, .agg #[.string (⟨#[97, 99, 109, 101, 47, 120]⟩ : ByteArray), .string (⟨#[98, 111, 98]⟩ : ByteArray), .string (⟨#[100, 101]⟩ : ByteArray), .int .i64 0, .int .i64 0, .int .i64 0]] W (Ret W (.bool true)) := fun W h => by rw [hX1]; exact ex_permits h.a (HE.out.keep h.b)
  have HN1 := Lib.hid hn1; have HN2 := Lib.hid hn2; have HDN := Lib.hid hdn; have HX1 := Lib.hid hx1; have HPM := Lib.hid hpm
  clear hn1 hn2 hdn hx1 hpm hD1 hD2 hX1
  refine wp_det 33 (by kernel_rfl) (by kernel_rfl) (by kernel_rfl) (fun i => [.bool true, .bool true, .bool true, .bool true, .bool true, .bool true, .bool true, .bool true, .bool true, .bool true, .bool true, .agg (exPol (w.heap.size + 5)), .agg D1, .agg (exPol g2), .agg D2, .bool true, .bool true, .bool true, .slice (some ⟨w.heap.size + 5, 0, none⟩) 2 2, .pointer (some ⟨w.heap.size + 5, 18, none⟩), .agg X2, .agg SX, .agg #[.int .i64 110, .int .i64 120], .bool false, .bool true, .bool true, .bool true, .slice (some ⟨w.heap.size + 5, 0, none⟩) 2 2, .pointer (some ⟨w.heap.size + 5, 0, none⟩), .agg X1, .agg #[.string (⟨#[97, 99, 109, 101, 47, 120]⟩ : ByteArray), .string (⟨#[98, 111, 98]⟩ : ByteArray), .string (⟨#[100, 101]⟩ : ByteArray), .int .i64 0, .int .i64 0, .int .i64 0], .bool true, .bool true].getD i undef) (SanU w (w.heap.size + 5) (w.heap.size + 2) pb sb g2 T2 pb2 true) (HV.out.keep (Below.drew (Below.refl _ _))) (fun _ _ h hb => h.keep hb) ?_ ?_
  · simp only [putL, List.take_succ_cons, List.take_zero, List.drop_succ_cons, List.drop_zero, Act.put, List.setIfInBounds_toArray, List.set_cons_succ, List.set_cons_zero, List.getD_cons_zero, List.getD_cons_succ]
    refine ⟨fun W hS => ?_, fun W hS => ?_, fun W hS => ?_, fun W hS => ?_, fun W hS => ?_, fun W hS => ?_, fun W hS => ?_, fun W hS => ?_, fun W hS => ?_, fun W hS => ?_, fun W hS => ?_, fun W hS => ?_, fun W hS => ?_, fun W hS => ?_, fun W hS => ?_, fun W hS => ?_, fun W hS => ?_, fun W hS => ?_, fun W hS => ?_, fun W hS => ?_, fun W hS => ?_, fun W hS => ?_, fun W hS => ?_, fun W hS => ?_, fun W hS => ?_, fun W hS => ?_, fun W hS => ?_, fun W hS => ?_, fun W hS => ?_, fun W hS => ?_, fun W hS => ?_, fun W hS => ?_, fun W hS => ?_, trivial⟩
    all_goals
      have hbw := hS.b
      go_wp2_with (first
        | (go_big_want; first | (refine wp_load_addr 24 _ rfl ⟨pb, 0, none⟩ (.agg (exPol (w.heap.size + 5))) rfl hS.a.ldp ?_; simp only [Act.put, List.setIfInBounds_toArray, List.set_cons_succ, List.set_cons_zero]) | (refine wp_load_addr 24 _ rfl ⟨pb2, 0, none⟩ (.agg (exPol g2)) rfl hS.a2.ldp ?_; simp only [Act.put, List.setIfInBounds_toArray, List.set_cons_succ, List.set_cons_zero]) | (refine wp_load_addr 33 _ rfl ⟨w.heap.size + 5, 18, none⟩ (.agg X2) rfl (HX2.out _ _ hS.a) ?_; simp only [Act.put, List.setIfInBounds_toArray, List.set_cons_succ, List.set_cons_zero]) | (refine wp_load_addr 33 _ rfl ⟨w.heap.size + 5, 0, none⟩ (.agg X1) rfl (HX1.out _ hS.a) ?_; simp only [Act.put, List.setIfInBounds_toArray, List.set_cons_succ, List.set_cons_zero]) | (refine wp_load_addr 82 _ rfl ⟨sb, 0, none⟩ (.agg SX) rfl (HSL.out _ hS.s) ?_; simp only [Act.put, List.setIfInBounds_toArray, List.set_cons_succ, List.set_cons_zero]) | (refine wp_binOp_as .neq 38 _ _ _ rfl _ (HDN.out _ _ _) ?_; simp only [Act.put, List.setIfInBounds_toArray, List.set_cons_succ, List.set_cons_zero]))
        | (go_at_call 16; (first | (with_reducible refine (HN1.out _ hS).mono ?_) | (with_reducible refine (HN2.out _ hS).mono ?_)); rintro e w2 ⟨rfl, hb2⟩)
        | (go_at_call 47; refine (HUS.out _).mono ?_; rintro e w2 ⟨rfl, hb2⟩)
        | (go_at_call 29; refine (HPM.out _ hS).mono ?_; rintro e w2 ⟨rfl, hb2⟩))
      exact ⟨rfl, rfl, belB⟩
  intro w11 hS11
  simp only [putL, List.take_succ_cons, List.take_zero, List.drop_succ_cons, List.drop_zero, Act.put, List.setIfInBounds_toArray, List.set_cons_succ, List.set_cons_zero, List.getD_cons_zero, List.getD_cons_succ]
  have hbE := hS11.b
  go_wp2
  go_ret
  exact ⟨rfl, hbE⟩
end Go.Proofs.YtjhlpkhfdghngaaGreatDoor
namespace Go.Proofs.YtjhlpkhfdghngaaGreatDoor
open Go.RowKit Go.Sort
set_option linter.unusedVariables false
set_option linter.unusedSimpArgs false
set_option maxRecDepth 100000
theorem fewR_fits {r : RuleV} (h : fewR r = true) : RuleFits r := by
  unfold fewR at h
  simp only [Bool.and_eq_true, decide_eq_true_eq, List.all_eq_true] at h
  obtain ⟨⟨⟨⟨⟨⟨⟨h1, h2⟩, h3⟩, h4⟩, h5⟩, h6⟩, h7⟩, h8⟩ := h
  refine ⟨h1, h2, h3, h4, fun s hs => by simpa using h7 s hs, h5, fun y hy => ?_, few_fits h6⟩
  have h9 := h8 y hy
  unfold fewVy at h9
  simp only [Bool.and_eq_true, decide_eq_true_eq, List.all_eq_true] at h9
  obtain ⟨⟨⟨a1, a2⟩, a3⟩, a4⟩ := h9
  exact ⟨a1, a2, a3, fun s hs => by simpa using a4 s hs⟩
theorem rValid22_any (x : RuleM) (w : World) (hR : RuleReads w x) (hf : RuleFits x.r) : Calls Tryz.prog 13 #[x.val] w (Ret w (.bool (validR x.r))) :=
  rValid22_of x w hR hf (fun W hb => rNames22_any x.T x.r.tags.length x.ct x.r.tags W (hR.tags.keep hb) (by have := hf.nt; omega) (fun s hs => by have := hf.t s hs; omega))
structure LEnv (w : World) : Prop where
  e : Env w
  t : Tab w
  k : Ks w
theorem LEnv.keep {w w' : World} (h : LEnv w) (hb : Below w.heap.size w w') : LEnv w' := ⟨h.e.keep hb, h.t.keep hb, h.k.keep hb⟩
theorem sanL (w : World) (h : LEnv w) : Calls Tryz.prog 11 #[] w (Ret w (.bool true)) := san22_any w h.e h.t h.k
end Go.Proofs.YtjhlpkhfdghngaaGreatDoor
namespace Go.Proofs.YtjhlpkhfdghngaaGreatDoor
open Go.RowKit Go.Sort
set_option linter.unusedVariables false
set_option linter.unusedSimpArgs false
set_option maxRecDepth 100000
structure CkS (w : World) (PL : Array Value) (W : World) : Prop where
  p : Box1 W w.heap.size 24 PL
  b : Below w.heap.size w W
theorem CkS.keep {w W W' : World} {PL : Array Value} (h : CkS w PL W) (hb : Below W.heap.size W W') : CkS w PL W' := ⟨h.p.keep hb, bstep h.b hb⟩
theorem hasN_take (L : List RuleM) (nm : ByteArray) : ∀ k, hasN (namesK L k) nm = (L.take k).any fun x => decide (nm.data.toList = x.r.name.data.toList) := by
  intro k
  unfold hasN namesK
  rw [List.any_reverse, List.any_map]
  rfl
set_option maxHeartbeats 8000000 in
theorem rCheck22_any (cust : ByteArray) (party : Int) (A : Option Addr) (n c : Nat) (L : List RuleM) (w : World) (hL : RulesRead w A n L) (hf : ∀ x ∈ L, RuleFits x.r) (hcs : cust.size ≤ 100000) :
    Calls Tryz.prog 15 #[polV cust party A n c] w (Ret w (.int .i64 (checkP cust party (L.map (·.r))))) := by
  have hl : L.length = n := hL.len
  have cN := fun (W : World) => rName_any cust W (by omega)
  have cV := fun (x : RuleM) (hx : x ∈ L) (W : World) (hb : Below w.heap.size w W) => rValid22_any x W ((hL.each x hx).keep hb) (hf x hx)
  have cB := fun (x : RuleM) (hx : x ∈ L) (W : World) => rBegins_any x.r.pat cust W (by have := (hf x hx).pat; omega) hcs
  unfold polV
  by_cases hn1 : isNameB cust = false ∨ party < 1 ∨ 1073741824 < party
  · have e1 : checkP cust party (L.map (·.r)) = 1 := by unfold checkP; rw [if_pos hn1]
    rw [e1]
    clear e1 hL hf cV cB
    cases hnm : isNameB cust
    · rw [hnm] at cN
      have HN := Lib.hid cN
      clear cN hnm hn1
      go_enter Tryz.func15, Tryz.ntmps15
      go_wp2_with (first | (go_at_call 53; refine (HN.out _).mono ?_; rintro e w2 ⟨rfl, hb2⟩; have B2 : Box1 w2 w.heap.size 24 #[.string cust, .int .i64 party, .slice A n c] := Box1.keep (heap_alloc_new w _) hb2; have y0 : w2.cell? ⟨w.heap.size, 0, none⟩ = some (.string cust) := B2.cell rfl; have y1 : w2.cell? ⟨w.heap.size, 1, none⟩ = some (.int .i64 party) := B2.cell rfl; have y2 : w2.cell? ⟨w.heap.size, 2, none⟩ = some (.slice A n c) := B2.cell rfl))
      go_ret
      exact ⟨rfl, belB⟩
    · have hn2 : party < 1 ∨ 1073741824 < party := hn1.resolve_left (by rw [hnm]; simp)
      rw [hnm] at cN
      have HN := Lib.hid cN
      clear cN hnm hn1
      by_cases hp1 : party < 1
      · clear hn2
        go_enter Tryz.func15, Tryz.ntmps15
        go_wp2_with (first | (go_at_call 53; refine (HN.out _).mono ?_; rintro e w2 ⟨rfl, hb2⟩; have B2 : Box1 w2 w.heap.size 24 #[.string cust, .int .i64 party, .slice A n c] := Box1.keep (heap_alloc_new w _) hb2; have y0 : w2.cell? ⟨w.heap.size, 0, none⟩ = some (.string cust) := B2.cell rfl; have y1 : w2.cell? ⟨w.heap.size, 1, none⟩ = some (.int .i64 party) := B2.cell rfl; have y2 : w2.cell? ⟨w.heap.size, 2, none⟩ = some (.slice A n c) := B2.cell rfl))
        go_ret
        exact ⟨rfl, belB⟩
      · have hp2 : 1073741824 < party := hn2.resolve_left hp1
        clear hn2
        go_enter Tryz.func15, Tryz.ntmps15
        go_wp2_with (first | (go_at_call 53; refine (HN.out _).mono ?_; rintro e w2 ⟨rfl, hb2⟩; have B2 : Box1 w2 w.heap.size 24 #[.string cust, .int .i64 party, .slice A n c] := Box1.keep (heap_alloc_new w _) hb2; have y0 : w2.cell? ⟨w.heap.size, 0, none⟩ = some (.string cust) := B2.cell rfl; have y1 : w2.cell? ⟨w.heap.size, 1, none⟩ = some (.int .i64 party) := B2.cell rfl; have y2 : w2.cell? ⟨w.heap.size, 2, none⟩ = some (.slice A n c) := B2.cell rfl))
        go_ret
        exact ⟨rfl, belB⟩
  · have e0 : isNameB cust = true ∧ 1 ≤ party ∧ party ≤ 1073741824 := by
      refine ⟨?_, ?_, ?_⟩
      · cases h : isNameB cust
        · exact absurd (.inl h) hn1
        · rfl
      · exact Int.not_lt.1 (fun h => hn1 (.inr (.inl h)))
      · exact Int.not_lt.1 (fun h => hn1 (.inr (.inr h)))
    obtain ⟨hnm, hp1, hp2⟩ := e0
    have e1 : checkP cust party (L.map (·.r)) = if 64 < n then 2 else checkL cust (L.map (·.r)) [] := by unfold checkP; rw [if_neg hn1, List.length_map, hl]
    rw [e1]
    have hcut := fun (p : ByteArray) => begB_cut (p := p) hnm
    rw [hnm] at cN
    clear e1 hn1 hnm
    have HN := Lib.hid cN
    have q1 : decide (party < 1) = false := decide_eq_false (by omega)
    have q2 : decide (1073741824 < party) = false := decide_eq_false (by omega)
    by_cases h64 : 64 < n
    · rw [if_pos h64]
      have q3 : decide ((64 : Int) < (n : Int)) = true := decide_eq_true (by omega)
      clear hL hf cV cB cN hl hcut
      go_enter Tryz.func15, Tryz.ntmps15
      go_wp2_with (first | (go_at_call 53; refine (HN.out _).mono ?_; rintro e w2 ⟨rfl, hb2⟩; have B2 : Box1 w2 w.heap.size 24 #[.string cust, .int .i64 party, .slice A n c] := Box1.keep (heap_alloc_new w _) hb2; have y0 : w2.cell? ⟨w.heap.size, 0, none⟩ = some (.string cust) := B2.cell rfl; have y1 : w2.cell? ⟨w.heap.size, 1, none⟩ = some (.int .i64 party) := B2.cell rfl; have y2 : w2.cell? ⟨w.heap.size, 2, none⟩ = some (.slice A n c) := B2.cell rfl))
      go_ret
      exact ⟨rfl, belB⟩
    rw [if_neg h64]
    have q3 : decide ((64 : Int) < (n : Int)) = false := decide_eq_false (by omega)
    obtain ⟨V, hV⟩ : ∃ V, V = checkL cust (L.map (·.r)) [] := ⟨_, rfl⟩
    rw [← hV]
    have HV := Lib.hid hV; have HL := Lib.hid hL; have HLN := Lib.hid hl; have HCV := Lib.hid cV; have HCB := Lib.hid cB; have HCUT := Lib.hid hcut
    clear hV hL hl cV cB hf cN hcut
    go_enter Tryz.func15, Tryz.ntmps15
    go_upto_region 6 with (first | (go_at_call 53; refine (HN.out _).mono ?_; rintro e w2 ⟨rfl, hb2⟩; have B2 : Box1 w2 w.heap.size 24 #[.string cust, .int .i64 party, .slice A n c] := Box1.keep (heap_alloc_new w _) hb2; have y0 : w2.cell? ⟨w.heap.size, 0, none⟩ = some (.string cust) := B2.cell rfl; have y1 : w2.cell? ⟨w.heap.size, 1, none⟩ = some (.int .i64 party) := B2.cell rfl; have y2 : w2.cell? ⟨w.heap.size, 2, none⟩ = some (.slice A n c) := B2.cell rfl))
    obtain ⟨PL, hPL⟩ : ∃ PL : Array Value, PL = #[.string cust, .int .i64 party, .slice A n c] := ⟨_, rfl⟩
    rw [← hPL] at B2
    have HC0 := Lib.hid (show PL[0]? = some (.string cust) by rw [hPL]; rfl)
    have HC2 := Lib.hid (show PL[2]? = some (.slice A n c) by rw [hPL]; rfl)
    have HS0 := Lib.hid (CkS.mk B2 (show Below w.heap.size w w2 from belB))
    clear hPL B2 hb2 y0 y1 y2 q1 q2 q3 hp1 hp2
    have y2 := HS0.out.p.cell HC2.out
    go_wp2_with fail
    clear y2
    go_loopw [4] (fun iv wr => ∃ k : Nat, k ≤ n ∧ iv = .int .i64 k ∧ Hid (V = checkL cust ((L.drop k).map (·.r)) (namesK L k)) ∧ Hid (CkS w PL wr)) (fun iv _ => n - (intOf iv).toNat)
    case atStart => exact ⟨0, by omega, rfl, Lib.hid (by rw [HV.out]; rfl), HS0⟩
    case round =>
      obtain ⟨k, hk, rfl, HI, HS⟩ := hrel
      clear HS0
      have y2 := HS.out.p.cell HC2.out
      have y0 := HS.out.p.cell HC0.out
      by_cases hlt : k < n
      · obtain ⟨x, hx⟩ : ∃ x, L[k]? = some x := ⟨_, List.getElem?_eq_getElem (by have := HLN.out; omega)⟩
        obtain ⟨_, b, o, rfl, hcell⟩ := (HL.out.keep HS.out.b).at_ hx
        have hld := rule_load wr b (o + k * 18) x hcell
        have hd : L.drop k = x :: L.drop (k + 1) := by
          obtain ⟨hl2, rfl⟩ := List.getElem?_eq_some_iff.1 hx
          exact List.drop_eq_getElem_cons hl2
        have hVA := HI.out
        rw [hd, List.map_cons, checkL] at hVA
        have hsucc := namesK_succ hx
        have hxm := List.mem_of_getElem? hx
        have hval := HCV.out x hxm
        have hbg := HCB.out x hxm
        rw [HCUT.out] at hbg
        have hk0 : (0 : Int) ≤ (k : Int) := by omega
        have hk1 : (k : Int) < (n : Int) := by omega
        have hcl : ∀ (m : Nat) (y : RuleM), L[m]? = some y → ∀ W, Below w.heap.size w W → ∀ j u, y.cells[j]? = some u → W.cell? ⟨b, o + m * 18 + j, none⟩ = some u := by
          intro m y hy W hb
          obtain ⟨_, b', o', e, hc⟩ := (HL.out.keep hb).at_ hy
          injection e with e
          injection e with e1 e2
          subst e1; subst e2
          exact hc
        have HCL := Lib.hid hcl
        have hpat : ∀ W, Below w.heap.size w W → W.cell? ⟨b, o + k * 18 + 1, none⟩ = some (.string x.r.pat) := fun W hb => hcl k x hx W hb 1 _ rfl
        have hnam : ∀ W, Below w.heap.size w W → W.cell? ⟨b, o + k * 18, none⟩ = some (.string x.r.name) := fun W hb => by have := hcl k x hx W hb 0 _ rfl; rwa [Nat.add_zero] at this
        have hht := hasN_take L x.r.name k
        unfold RuleM.val at hld hval
        generalize x.cells.toArray = X at *
        generalize sameB (cutB x.r.pat) cust = bg at *
        generalize validR x.r = vb at *
        generalize x.r.pat = pt at *
        generalize x.r.name = nm at *
        generalize hasN (namesK L k) nm = sb at *
        have HLD := Lib.hid hld; have HSU := Lib.hid hsucc; have HVAL := Lib.hid hval; have HBG := Lib.hid hbg; have HPAT := Lib.hid hpat; have HNAM := Lib.hid hnam; have HHT := Lib.hid hht
        clear hld hsucc hval hbg hpat hnam hht hd hcell hx hxm hcl HI
        cases vb
        · rw [if_pos rfl] at hVA
          subst hVA
          go_wp2_with (first | (refine wpList_load_addr rfl 33 _ rfl ⟨b, o + k * 18, none⟩ (.agg X) rfl HLD.out ?_) | (go_at_call 13; refine (HVAL.out _ HS.out.b).mono ?_; rintro e w3 ⟨rfl, hb3⟩; have hS3 := HS.out.keep hb3))
          go_ret
          exact ⟨rfl, hS3.b⟩
        rw [if_neg (by simp)] at hVA
        have HVA := Lib.hid hVA
        clear hVA
        go_upto_region 12 with (first | (refine wpList_load_addr rfl 33 _ rfl ⟨b, o + k * 18, none⟩ (.agg X) rfl HLD.out ?_) | (go_at_call 13; refine (HVAL.out _ HS.out.b).mono ?_; rintro e w3 ⟨rfl, hb3⟩; have hS3 := HS.out.keep hb3))
        have HS3 := Lib.hid hS3
        clear hS3 y0 y2 HLD HVAL hb3
        refine wp_det 10 (by kernel_rfl) (by kernel_rfl) (by kernel_rfl) (fun i => [.pointer (some ⟨w.heap.size, 2, none⟩), .slice (some ⟨b, o, none⟩) n c, .int .i64 k, .pointer (some ⟨b, o + k * 18, none⟩), .pointer (some ⟨b, o + k * 18 + 1, none⟩), .string pt, .pointer (some ⟨w.heap.size, 0, none⟩), .string cust, .bool bg, .bool (!bg)].getD i undef) (CkS w PL) (HS3.out.keep (Below.drew (Below.refl _ _))) (fun _ _ h hb => h.keep hb) ?_ ?_
        · simp only [putL, List.take_succ_cons, List.take_zero, List.drop_succ_cons, List.drop_zero, Act.put, List.setIfInBounds_toArray, List.set_cons_succ, List.set_cons_zero, List.getD_cons_zero, List.getD_cons_succ]
          refine ⟨fun W hS => ?_, fun W hS => ?_, fun W hS => ?_, fun W hS => ?_, fun W hS => ?_, fun W hS => ?_, fun W hS => ?_, fun W hS => ?_, fun W hS => ?_, fun W hS => ?_, trivial⟩
          all_goals
            have hbw := hS.b
            have y0 := hS.p.cell HC0.out
            have y2 := hS.p.cell HC2.out
            have yp := HPAT.out _ hbw
            go_wp2_with (go_at_call 59; refine (HBG.out _).mono ?_; rintro e w2 ⟨rfl, hb2⟩)
            exact ⟨rfl, rfl, belB⟩
        intro w4 hS4
        have hb4 := hS4.b
        have HS4 := Lib.hid hS4
        clear hS4 HS3 HBG HPAT
        simp only [putL, List.take_succ_cons, List.take_zero, List.drop_succ_cons, List.drop_zero, Act.put, List.setIfInBounds_toArray, List.set_cons_succ, List.set_cons_zero, List.getD_cons_zero, List.getD_cons_succ]
        have hVA := HVA.out
        cases bg
        · rw [if_pos rfl] at hVA
          subst hVA
          go_wp2_with fail
          go_ret
          exact ⟨rfl, hb4⟩
        rw [if_neg (by simp)] at hVA
        have HVB := Lib.hid hVA
        clear hVA HVA hb4
        go_wp2_with fail
        obtain ⟨wo, rfl⟩ : ∃ wo : World, wo = wr := ⟨_, rfl⟩
        go_loopw [5] (fun iv wr => ∃ m : Nat, m ≤ k ∧ iv = .int .i64 m ∧ Hid (((L.take m).any fun x => decide (nm.data.toList = x.r.name.data.toList)) = false) ∧ Hid (CkS w PL wr)) (fun iv _ => k - (intOf iv).toNat)
        case atStart => exact ⟨0, by omega, rfl, Lib.hid rfl, HS4⟩
        case round =>
          obtain ⟨m, hm, rfl, HNO, HSr⟩ := hrel
          clear HS4 HS
          have y2 := HSr.out.p.cell HC2.out
          have hbr := HSr.out.b
          by_cases hmk : m < k
          · obtain ⟨y, hy⟩ : ∃ y, L[m]? = some y := ⟨_, List.getElem?_eq_getElem (by have := HLN.out; omega)⟩
            have c1 : wr.cell? ⟨b, o + m * 18, none⟩ = some (.string y.r.name) := by have := HCL.out m y hy wr hbr 0 _ rfl; rwa [Nat.add_zero] at this
            have c2 := HNAM.out wr hbr
            have hm0 : (0 : Int) ≤ (m : Int) := by omega
            have hm1 : (m : Int) < (n : Int) := by omega
            have dm : decide ((m : Int) < (k : Int)) = true := decide_eq_true (by omega)
            have htk : ((L.take (m + 1)).any fun x => decide (nm.data.toList = x.r.name.data.toList)) = decide (nm.data.toList = y.r.name.data.toList) := by
              rw [List.take_add_one, hy, List.any_append, HNO.out]
              simp
            have hmem : decide (nm.data.toList = y.r.name.data.toList) = true → sb = true := fun h => by
              rw [HHT.out, List.any_eq_true]
              exact ⟨y, List.mem_of_getElem? (by rw [List.getElem?_take_of_lt hmk]; exact hy), h⟩
            generalize y.r.name = ny at *
            have heq : (ny.toList == nm.toList) = decide (nm.data.toList = ny.data.toList) := by
              rw [toL, toL, Bool.eq_iff_iff, beq_iff_eq, decide_eq_true_eq]
              exact eq_comm
            have HTK := Lib.hid htk; have HMEM := Lib.hid hmem
            clear htk hmem hy
            cases hd : decide (nm.data.toList = ny.data.toList)
            · rw [hd] at heq
              rw [hd] at HTK
              clear hd HMEM
              go_wp2_with fail
              go_quiet (fail)
              go_wp2
              exact ⟨⟨m + 1, by omega, by go_num, Lib.hid HTK.out, Lib.hid (HSr.out.keep (bdrewN (Below.refl _ _) _))⟩, by simp [intOf]; omega⟩
            · rw [hd] at heq
              have hsb := HMEM.out hd
              have hV := HVB.out
              rw [if_pos hsb] at hV
              clear hd HMEM hsb
              subst hV
              go_wp2_with fail
              go_quiet (fail)
              go_wp2
              go_ret
              exact ⟨rfl, belB⟩
          · have hmk2 : m = k := by omega
            have hsb : sb = false := by
              rw [HHT.out, ← hmk2]
              exact HNO.out
            have hV := HVB.out
            rw [if_neg (by rw [hsb]; simp)] at hV
            have dm : decide ((m : Int) < (k : Int)) = false := decide_eq_false (by omega)
            have HV2 := Lib.hid (show V = checkL cust ((L.drop (k + 1)).map (·.r)) (namesK L (k + 1)) by rw [HSU.out]; exact hV)
            generalize (m : Int) = mI at *
            clear hV hsb hmk2 hmk hm HNO y2
            go_wp2_with fail
            exact ⟨⟨k + 1, by omega, by go_num, HV2, HSr⟩, by simp [intOf]; omega⟩
      · have hVz : V = 0 := by rw [HI.out, List.drop_eq_nil_of_le (by have := HLN.out; omega)]; rfl
        have hbr := HS.out.b
        subst hVz
        go_wp2_with fail
        go_ret
        exact ⟨rfl, hbr⟩
end Go.Proofs.YtjhlpkhfdghngaaGreatDoor
namespace Go.Proofs.YtjhlpkhfdghngaaGreatDoor
open Go.RowKit Go.Sort
set_option linter.unusedVariables false
set_option linter.unusedSimpArgs false
set_option maxRecDepth 100000
set_option maxHeartbeats 8000000 in
theorem rName22_any (cust : ByteArray) (party : Int) (A : Option Addr) (n c : Nat) (L : List RuleM) (w : World) (hL : RulesRead w A n L) (hx : ∀ x ∈ L, NameOk x) (hn : n ≤ 64) (hcs : cust.size ≤ 1000000) (hp : 0 ≤ party ∧ party ≤ 9223372036854775807) (hK : Ks2 w) :
    Calls Tryz.prog 17 #[polV cust party A n c] w (Ret w (.agg (b8 (Sha.ofD 22 ((partsP cust party (L.map (·.r))).map nb))).toArray)) := by
  obtain ⟨i0, hi0, hz0, hz1, hz2⟩ := info_parts infStr8
  have HI := Lib.hid (And.intro hi0 (And.intro hz0 (And.intro hz1 hz2)))
  clear hi0 hz0 hz1 hz2
  have hl : L.length = n := hL.len
  have cD : ∀ W, Calls Tryz.prog 65 #[.int .i64 party] W (Ret W (.string (itoaB party))) := fun W => by
    obtain ⟨m, e⟩ : ∃ m : Nat, party = (m : Int) := ⟨party.toNat, by omega⟩
    rw [e]
    exact rDecimal_any m W (by omega)
  have cP := fun (x : RuleM) (hm : x ∈ L) (W : World) (hb : Below w.heap.size w W) => rParts22_any x W ((hL.each x hm).keep hb) (hx x hm).ok (hx x hm).fits
  have hpl : (partsP cust party (L.map (·.r))).length ≤ 10000 := by
    have := flatR_len L hx
    unfold partsP
    rw [List.length_append]
    have h2 : [cust, itoaB party].length = 2 := rfl
    omega
  have hprl := fun (x : RuleM) (hm : x ∈ L) => partsR_len (hx x hm)
  have cO := fun (B : Option Addr) (d : Nat) (W : World) (hR : Reads W 1 B (partsP cust party (L.map (·.r))).length ((partsP cust party (L.map (·.r))).map .string)) (hb : Below w.heap.size w W) => rOf_any 22 (by decide) B _ d _ W hR hpl (partsP_size cust party L hcs (by omega) hx) (hK.keep hb)
  obtain ⟨V, hV⟩ : ∃ V, V = partsP cust party (L.map (·.r)) := ⟨_, rfl⟩
  rw [← hV] at cO ⊢
  generalize hDG : (b8 (Sha.ofD 22 (V.map nb))).toArray = DG at *
  have HV := Lib.hid hV; have HL := Lib.hid hL; have HLN := Lib.hid hl; have HCD := Lib.hid cD; have HCP := Lib.hid cP; have HCO := Lib.hid cO; have HDG := Lib.hid hDG; have HPRL := Lib.hid hprl
  have HDI := Lib.hid (show (Tryz.prog.info? 38).map (·.size) = some DG.size by rw [← hDG, List.size_toArray, b8_len, show (Sha.ofD 22 (V.map nb)).length = 16 from rfl]; exact infDig16)
  have HDS := Lib.hid (show DG.size = 16 by rw [← hDG, List.size_toArray, b8_len]; rfl)
  have HDO := Lib.hid (show DG.all (·.oneCell') = true by rw [← hDG]; exact b8_all _)
  clear hV hL hl cD cP cO hK hpl hDG hprl hx
  unfold polV
  go_enter Tryz.func17, Tryz.ntmps17
  go_upto_region 1 with fail
  generalize hw0 : World.alloc _ _ = w0
  obtain ⟨PL, hPL⟩ : ∃ PL : Array Value, PL = #[.string cust, .int .i64 party, .slice A n c] := ⟨_, rfl⟩
  obtain ⟨ZD, hZD⟩ : ∃ ZD : Array Value, ZD = (b8 (List.replicate 16 0)).toArray := ⟨_, rfl⟩
  have hS0 : NSt w PL ZD w0 := by
    rw [← hw0, hPL, hZD]
    exact ⟨(alloc2_box w _ _).1, (alloc2_box w _ _).2, belB, by simp⟩
  have p0 : PL[0]? = some (.string cust) := by rw [hPL]; rfl
  have p1 : PL[1]? = some (.int .i64 party) := by rw [hPL]; rfl
  have p2 : PL[2]? = some (.slice A n c) := by rw [hPL]; rfl
  have zsz : ZD.size = 16 := by rw [hZD]; rfl
  have HS0 := Lib.hid hS0; have HP0 := Lib.hid p0; have HP1 := Lib.hid p1; have HP2 := Lib.hid p2; have HZD := Lib.hid zsz
  clear hw0 hS0 hPL hZD p0 p1 p2 zsz
  refine wp_det 5 (by kernel_rfl) (by kernel_rfl) (by kernel_rfl) (fun i => [.pointer (some ⟨w.heap.size, 0, none⟩), .string cust, .pointer (some ⟨w.heap.size, 1, none⟩), .int .i64 party, .string (itoaB party)].getD i undef) (NSt w PL ZD) (HS0.out.keep (Below.drew (Below.refl _ _))) (fun _ _ h hb => h.keep hb) ?_ ?_
  · simp only [putL, List.take_succ_cons, List.take_zero, List.drop_succ_cons, List.drop_zero, Act.put, List.setIfInBounds_toArray, List.set_cons_succ, List.set_cons_zero, List.getD_cons_zero, List.getD_cons_succ]
    refine ⟨fun W hS => ?_, fun W hS => ?_, fun W hS => ?_, fun W hS => ?_, fun W hS => ?_, trivial⟩
    all_goals
      have y0 := hS.p.cell HP0.out
      have y1 := hS.p.cell HP1.out
      go_wp2_with (first | (go_at_call 65; refine (HCD.out _).mono ?_; rintro e w2 ⟨rfl, hb2⟩))
      exact ⟨rfl, rfl, belB⟩
  intro w1 hS1
  simp only [putL, List.take_succ_cons, List.take_zero, List.drop_succ_cons, List.drop_zero, Act.put, List.setIfInBounds_toArray, List.set_cons_succ, List.set_cons_zero, List.getD_cons_zero, List.getD_cons_succ]
  go_upto_region 2 with fail
  have hown1 : (w1.alloc (.cells #[.string cust, .string (itoaB party)] 9)).ownsRow (w.heap.size + 2) 9 1 (.slice (some ⟨w1.heap.size, 0, none⟩) 2 2) 2 ([cust, itoaB party].map .string) := by
    have := World.ownsRow_lit (base := w.heap.size + 2) (e := 9) (size := 1) w1 #[.string cust, .string (itoaB party)] 2 (by have := hS1.s; omega) (by unfold maxLen; omega) rfl
    exact this
  have hS2 : NSt w PL ZD (w1.alloc (.cells #[.string cust, .string (itoaB party)] 9)) := hS1.keep ((Below.refl _ _).alloc (Nat.le_refl _) _)
  obtain ⟨g1, hg1⟩ : ∃ g1, g1 = w1.heap.size := ⟨_, rfl⟩
  rw [← hg1] at hown1 ⊢
  have HS2 := Lib.hid hS2; have HO1 := Lib.hid hown1
  generalize w1.alloc (.cells #[.string cust, .string (itoaB party)] 9) = w2 at *
  clear hS2 hown1 hS1 hg1 HS0
  clear w1 w0
  have y2 := HS2.out.p.cell HP2.out
  go_wp2_with fail
  clear y2
  go_loopw [3, 4] (fun pv iv wr => ∃ (k : Nat) (acc : List ByteArray) (B : Option Addr) (d : Nat), k ≤ n ∧ iv = .int .i64 k ∧ pv = .slice B acc.length d ∧ acc.length ≤ 2 + k * 38 ∧ Hid (V = acc ++ ((L.drop k).map (·.r)).flatMap partsR) ∧ wr.ownsRow (w.heap.size + 2) 9 1 (.slice B acc.length d) acc.length (acc.map .string) ∧ Hid (NSt w PL ZD wr)) (fun _ iv _ => n - (intOf iv).toNat)
  case atStart => exact ⟨0, [cust, itoaB party], some ⟨g1, 0, none⟩, 2, by omega, rfl, rfl, by simp, Lib.hid (by rw [HV.out]; rfl), HO1.out, HS2⟩
  case round =>
    obtain ⟨k, acc, B, d, hk, rfl, rfl, hak, HVA, hown, HS⟩ := hrel
    clear HS2 HO1
    have y2 := HS.out.p.cell HP2.out
    by_cases hlt : k < n
    · obtain ⟨x, hxx⟩ : ∃ x, L[k]? = some x := ⟨_, List.getElem?_eq_getElem (by have := HLN.out; omega)⟩
      have hxm := List.mem_of_getElem? hxx
      obtain ⟨_, b, o, rfl, hcell⟩ := (HL.out.keep HS.out.b).at_ hxx
      have hld := rule_load wr b (o + k * 18) x hcell
      have hd : L.drop k = x :: L.drop (k + 1) := by
        obtain ⟨hl2, rfl⟩ := List.getElem?_eq_some_iff.1 hxx
        exact List.drop_eq_getElem_cons hl2
      have hVA := HVA.out
      rw [hd, List.map_cons, List.flatMap_cons, ← List.append_assoc] at hVA
      have hpt := HCP.out x hxm
      have hprl := HPRL.out x hxm
      unfold RuleM.val at hld hpt
      generalize x.cells.toArray = X at *
      generalize partsR x.r = pr at *
      have HLD := Lib.hid hld; have HPT := Lib.hid hpt; have HVB := Lib.hid hVA; have HO := Lib.hid hown; have HPL2 := Lib.hid hprl
      clear hld hpt hVA hprl hown hcell hd hxx hxm HVA
      have hk0 : (0 : Int) ≤ (k : Int) := by omega
      have hk1 : (k : Int) < (n : Int) := by omega
      go_wp2_with (first
        | (refine wpList_load_addr rfl 33 _ rfl ⟨b, o + k * 18, none⟩ (.agg X) rfl HLD.out ?_)
        | (go_at_call 66; refine (HPT.out _ HS.out.b).mono ?_; rintro e w2 ⟨A2, d2, rfl, hown2, hb2⟩)
        | (at_builtin; refine wpList_append_reads _ rfl _ _ 27 rfl (w.heap.size + 2) 9 i0 (.string ⟨#[]⟩) 16 Tryz.underlying27 HI.out.1 HI.out.2.1 HI.out.2.2.1 HI.out.2.2.2 rfl _ _ _ rfl (ownsRow_keep HO.out (Below.mono hb2 (Nat.le_refl _))) A2 pr.length d2 (pr.map .string) rfl (Reads.of_own hown2) (strs_one _) (by have := HPL2.out; unfold maxLen; omega) (by have := HPL2.out; omega) (by have := HS.out.s; have := hb2.size; omega) ?_; intro v3 w3 hown3 hg3; obtain ⟨B3, d3, rfl⟩ := own_slice hown3))
      have hl3 : (acc ++ pr).length = acc.length + pr.length := List.length_append
      have hb3 : Below (w.heap.size + 2) w2 w3 := Below.grown (Below.refl _ _) hg3 (by have := HS.out.s; have := hb2.size; omega) (fun r e => ownsRow_block (ownsRow_keep HO.out hb2) r e)
      have hN3 := (HS.out.keep hb2).keep2 hb3
      refine ⟨⟨k + 1, acc ++ pr, B3, d3, by omega, by go_num, by rw [hl3], by have := HPL2.out; rw [hl3]; omega, Lib.hid HVB.out, ?_, Lib.hid hN3⟩, by simp [intOf]; omega⟩
      rw [hl3, List.map_append]; exact hown3
    · have hkn : k = n := by omega
      have hVe : V = acc := by
        rw [HVA.out, hkn, List.drop_eq_nil_of_le (by rw [HLN.out]; exact Nat.le_refl _)]
        simp
      have hRV : Reads wr 1 B V.length (V.map .string) := by rw [hVe]; exact Reads.of_own hown
      have hvl : acc.length = V.length := by rw [hVe]
      rw [hvl] at hown ⊢
      have HRV := Lib.hid hRV
      clear hVe hRV hvl hown HVA hak
      have hz2 := fun (W : World) (hb : Below wr.heap.size wr W) => (HS.out.keep hb).z
      have HZ2 := Lib.hid hz2
      clear hz2
      go_wp2_with (first
        | (go_at_call 67; refine (HCO.out _ _ _ HRV.out HS.out.b).mono ?_; rintro e w2 ⟨rfl, hb2⟩)
        | (refine wpList_store_row rfl _ _ _ rfl (w.heap.size + 1) DG rfl rfl _ ZD (HZ2.out _ hb2) HDI.out (by rw [HZD.out, HDS.out]) HDO.out ?_))
      refine bodyPost_ret (v := .agg DG) ?_ rfl ⟨rfl, ?_⟩
      · exact results_cell_row rfl _ _ (w.heap.size + 1) _ _ (0, 0) _ rfl (setRow_heap _ _ _ _ _ _ (HZ2.out _ hb2)) Tryz.underlying38 rfl HDI.out
      · exact below_setRow (bstep HS.out.b hb2) (by omega) _
end Go.Proofs.YtjhlpkhfdghngaaGreatDoor
namespace Go.Proofs.YtjhlpkhfdghngaaGreatDoor
open Go.RowKit Go.Sort
set_option linter.unusedVariables false
set_option linter.unusedSimpArgs false
set_option maxRecDepth 100000
theorem key_u8 (d : Nat) (a : Int) (h : (Lit.int .u8 a).wf = true) : Tryz.prog.keyLits (d + 1) 5 [.int .u8 a] = some [.int .u8 a] := by
  unfold Program.keyLits
  rw [Tryz.underlying5]
  show (if IntKind.u8 = IntKind.u8 ∧ (Lit.int .u8 a).wf = true then some [Lit.int .u8 a] else none) = _
  rw [if_pos ⟨rfl, h⟩]
theorem dig_lits (d : Nat) (a0 a1 a2 a3 a4 a5 a6 a7 a8 a9 a10 a11 a12 a13 a14 a15 : Int) (h0 : (Lit.int .u8 a0).wf = true) (h1 : (Lit.int .u8 a1).wf = true) (h2 : (Lit.int .u8 a2).wf = true) (h3 : (Lit.int .u8 a3).wf = true) (h4 : (Lit.int .u8 a4).wf = true) (h5 : (Lit.int .u8 a5).wf = true) (h6 : (Lit.int .u8 a6).wf = true) (h7 : (Lit.int .u8 a7).wf = true) (h8 : (Lit.int .u8 a8).wf = true) (h9 : (Lit.int .u8 a9).wf = true) (h10 : (Lit.int .u8 a10).wf = true) (h11 : (Lit.int .u8 a11).wf = true) (h12 : (Lit.int .u8 a12).wf = true) (h13 : (Lit.int .u8 a13).wf = true) (h14 : (Lit.int .u8 a14).wf = true) (h15 : (Lit.int .u8 a15).wf = true) : Tryz.prog.keyLits (d + 1 + 1) 38 [.int .u8 a0, .int .u8 a1, .int .u8 a2, .int .u8 a3, .int .u8 a4, .int .u8 a5, .int .u8 a6, .int .u8 a7, .int .u8 a8, .int .u8 a9, .int .u8 a10, .int .u8 a11, .int .u8 a12, .int .u8 a13, .int .u8 a14, .int .u8 a15] = some [.int .u8 a0, .int .u8 a1, .int .u8 a2, .int .u8 a3, .int .u8 a4, .int .u8 a5, .int .u8 a6, .int .u8 a7, .int .u8 a8, .int .u8 a9, .int .u8 a10, .int .u8 a11, .int .u8 a12, .int .u8 a13, .int .u8 a14, .int .u8 a15] := by
  unfold Program.keyLits
  rw [Tryz.underlying38]
  show (if _ then ((List.range 16).mapM fun i => Tryz.prog.keyLits (d + 1) 5 (([.int .u8 a0, .int .u8 a1, .int .u8 a2, .int .u8 a3, .int .u8 a4, .int .u8 a5, .int .u8 a6, .int .u8 a7, .int .u8 a8, .int .u8 a9, .int .u8 a10, .int .u8 a11, .int .u8 a12, .int .u8 a13, .int .u8 a14, .int .u8 a15] : List Value).drop (i * Tryz.prog.cellsOf 5) |>.take (Tryz.prog.cellsOf 5))).map List.flatten else none) = _
  rw [if_pos (by kernel_rfl), show Tryz.prog.cellsOf 5 = 1 by kernel_rfl, show List.range 16 = [0, 1, 2, 3, 4, 5, 6, 7, 8, 9, 10, 11, 12, 13, 14, 15] from rfl]
  simp [key_u8 d a0 h0, key_u8 d a1 h1, key_u8 d a2 h2, key_u8 d a3 h3, key_u8 d a4 h4, key_u8 d a5 h5, key_u8 d a6 h6, key_u8 d a7 h7, key_u8 d a8 h8, key_u8 d a9 h9, key_u8 d a10 h10, key_u8 d a11 h11, key_u8 d a12 h12, key_u8 d a13 h13, key_u8 d a14 h14, key_u8 d a15 h15]
theorem dig_key (a0 a1 a2 a3 a4 a5 a6 a7 a8 a9 a10 a11 a12 a13 a14 a15 : Int) (h0 : (Lit.int .u8 a0).wf = true) (h1 : (Lit.int .u8 a1).wf = true) (h2 : (Lit.int .u8 a2).wf = true) (h3 : (Lit.int .u8 a3).wf = true) (h4 : (Lit.int .u8 a4).wf = true) (h5 : (Lit.int .u8 a5).wf = true) (h6 : (Lit.int .u8 a6).wf = true) (h7 : (Lit.int .u8 a7).wf = true) (h8 : (Lit.int .u8 a8).wf = true) (h9 : (Lit.int .u8 a9).wf = true) (h10 : (Lit.int .u8 a10).wf = true) (h11 : (Lit.int .u8 a11).wf = true) (h12 : (Lit.int .u8 a12).wf = true) (h13 : (Lit.int .u8 a13).wf = true) (h14 : (Lit.int .u8 a14).wf = true) (h15 : (Lit.int .u8 a15).wf = true) : ∃ l, Go.keyOf Tryz.prog 38 (.agg #[.int .u8 a0, .int .u8 a1, .int .u8 a2, .int .u8 a3, .int .u8 a4, .int .u8 a5, .int .u8 a6, .int .u8 a7, .int .u8 a8, .int .u8 a9, .int .u8 a10, .int .u8 a11, .int .u8 a12, .int .u8 a13, .int .u8 a14, .int .u8 a15]) = some l := by
  have h := dig_lits (Tryz.prog.types.size - 1) a0 a1 a2 a3 a4 a5 a6 a7 a8 a9 a10 a11 a12 a13 a14 a15 h0 h1 h2 h3 h4 h5 h6 h7 h8 h9 h10 h11 h12 h13 h14 h15
  unfold Go.keyOf
  rw [Tryz.underlying38]
  show ∃ l, (if (Tryz.prog.keyType 38 && Value.formed Tryz.prog 38 (.agg #[.int .u8 a0, .int .u8 a1, .int .u8 a2, .int .u8 a3, .int .u8 a4, .int .u8 a5, .int .u8 a6, .int .u8 a7, .int .u8 a8, .int .u8 a9, .int .u8 a10, .int .u8 a11, .int .u8 a12, .int .u8 a13, .int .u8 a14, .int .u8 a15])) = true then (Tryz.prog.keyLits (Tryz.prog.types.size + 1) 38 [.int .u8 a0, .int .u8 a1, .int .u8 a2, .int .u8 a3, .int .u8 a4, .int .u8 a5, .int .u8 a6, .int .u8 a7, .int .u8 a8, .int .u8 a9, .int .u8 a10, .int .u8 a11, .int .u8 a12, .int .u8 a13, .int .u8 a14, .int .u8 a15]).map (fun ls => Lit.string (keyBytes ls)) else none) = some l
  rw [if_pos (by kernel_rfl), show Tryz.prog.types.size + 1 = Tryz.prog.types.size - 1 + 1 + 1 by kernel_rfl, h]
  exact ⟨_, rfl⟩
theorem dig_same (a0 a1 a2 a3 a4 a5 a6 a7 a8 a9 a10 a11 a12 a13 a14 a15 : Int) (h0 : (Lit.int .u8 a0).wf = true) (h1 : (Lit.int .u8 a1).wf = true) (h2 : (Lit.int .u8 a2).wf = true) (h3 : (Lit.int .u8 a3).wf = true) (h4 : (Lit.int .u8 a4).wf = true) (h5 : (Lit.int .u8 a5).wf = true) (h6 : (Lit.int .u8 a6).wf = true) (h7 : (Lit.int .u8 a7).wf = true) (h8 : (Lit.int .u8 a8).wf = true) (h9 : (Lit.int .u8 a9).wf = true) (h10 : (Lit.int .u8 a10).wf = true) (h11 : (Lit.int .u8 a11).wf = true) (h12 : (Lit.int .u8 a12).wf = true) (h13 : (Lit.int .u8 a13).wf = true) (h14 : (Lit.int .u8 a14).wf = true) (h15 : (Lit.int .u8 a15).wf = true) (x y : Operand) (W : World) : (do eqGuard .eql 38 x y (.agg #[.int .u8 a0, .int .u8 a1, .int .u8 a2, .int .u8 a3, .int .u8 a4, .int .u8 a5, .int .u8 a6, .int .u8 a7, .int .u8 a8, .int .u8 a9, .int .u8 a10, .int .u8 a11, .int .u8 a12, .int .u8 a13, .int .u8 a14, .int .u8 a15]) (.agg #[.int .u8 a0, .int .u8 a1, .int .u8 a2, .int .u8 a3, .int .u8 a4, .int .u8 a5, .int .u8 a6, .int .u8 a7, .int .u8 a8, .int .u8 a9, .int .u8 a10, .int .u8 a11, .int .u8 a12, .int .u8 a13, .int .u8 a14, .int .u8 a15]); binOp .eql 38 (.agg #[.int .u8 a0, .int .u8 a1, .int .u8 a2, .int .u8 a3, .int .u8 a4, .int .u8 a5, .int .u8 a6, .int .u8 a7, .int .u8 a8, .int .u8 a9, .int .u8 a10, .int .u8 a11, .int .u8 a12, .int .u8 a13, .int .u8 a14, .int .u8 a15]) (.agg #[.int .u8 a0, .int .u8 a1, .int .u8 a2, .int .u8 a3, .int .u8 a4, .int .u8 a5, .int .u8 a6, .int .u8 a7, .int .u8 a8, .int .u8 a9, .int .u8 a10, .int .u8 a11, .int .u8 a12, .int .u8 a13, .int .u8 a14, .int .u8 a15])).run Tryz.prog W = .ok (.bool true) W := by
  obtain ⟨l, hl⟩ := dig_key a0 a1 a2 a3 a4 a5 a6 a7 a8 a9 a10 a11 a12 a13 a14 a15 h0 h1 h2 h3 h4 h5 h6 h7 h8 h9 h10 h11 h12 h13 h14 h15
  obtain ⟨r, hr, hi⟩ := run_equal_deep (P := Tryz.prog) W (m := 3) (by omega) (k := 38) (by kernel_rfl) (by rw [Tryz.underlying38]) hl hl
  have h1 : r = true := hi.2 rfl
  rw [h1] at hr
  rw [Sem.run_bind, run_eqGuard_agg (P := Tryz.prog) (w := W) .eql 38 x y _ _ (by kernel_rfl)]
  show ((binOp .eql 38 _ _).run Tryz.prog W) = _
  rw [run_eql_struct]
  have hr2 : (Op.equalIn 10000 38 (.agg #[.int .u8 a0, .int .u8 a1, .int .u8 a2, .int .u8 a3, .int .u8 a4, .int .u8 a5, .int .u8 a6, .int .u8 a7, .int .u8 a8, .int .u8 a9, .int .u8 a10, .int .u8 a11, .int .u8 a12, .int .u8 a13, .int .u8 a14, .int .u8 a15]) (.agg #[.int .u8 a0, .int .u8 a1, .int .u8 a2, .int .u8 a3, .int .u8 a4, .int .u8 a5, .int .u8 a6, .int .u8 a7, .int .u8 a8, .int .u8 a9, .int .u8 a10, .int .u8 a11, .int .u8 a12, .int .u8 a13, .int .u8 a14, .int .u8 a15])).run Tryz.prog W = .ok true W := hr
  rw [hr2]
  rfl
end Go.Proofs.YtjhlpkhfdghngaaGreatDoor
namespace Go.Proofs.YtjhlpkhfdghngaaGreatDoor
open Go.RowKit Go.Sort
set_option linter.unusedVariables false
set_option linter.unusedSimpArgs false
set_option maxRecDepth 100000
theorem few_all {L : List RuleM} {n : Nat} {w : World} {A : Option Addr} (hL : RulesRead w A n L) (h : (L.all (fun x => fewR x.r) && decide ((n : Int) ≤ 12)) = true) : (∀ x ∈ L, RuleFits x.r) ∧ n ≤ 12 ∧ RulesFit L := by
  rw [Bool.and_eq_true, decide_eq_true_eq, List.all_eq_true] at h
  have hf : ∀ x ∈ L, RuleFits x.r := fun x hx => fewR_fits (h.1 x hx)
  refine ⟨hf, by omega, ⟨by have := hL.len; omega, fun x hx => by have := (hf x hx).pat; omega, fun x hx => by have := (hf x hx).nt; omega⟩⟩
structure RuS (g : Nat) (X : Array Value) (w0 : World) (W : World) : Prop where
  x : Box1 W g 33 X
  b : Below w0.heap.size w0 W
theorem RuS.keep {g : Nat} {X : Array Value} {w0 W W' : World} (h : RuS g X w0 W) (hb : Below W.heap.size W W') : RuS g X w0 W' := ⟨h.x.keep hb, bstep h.b hb⟩
end Go.Proofs.YtjhlpkhfdghngaaGreatDoor
namespace Go.Proofs.YtjhlpkhfdghngaaGreatDoor
open Go.RowKit Go.Sort
set_option linter.unusedVariables false
set_option linter.unusedSimpArgs false
set_option maxRecDepth 100000
structure But (g : Nat) (w w' : World) : Prop where
  os : w'.os = w.os
  tape : w'.tape = w.tape
  output : w'.output = w.output
  size : w.heap.size ≤ w'.heap.size
  block : ∀ k, k < w.heap.size → k ≠ g → w'.heap[k]? = w.heap[k]?
section
variable {g : Nat} {a w w' w'' : World}
theorem But.refl (g : Nat) (w : World) : But g w w := ⟨rfl, rfl, rfl, Nat.le_refl _, fun _ _ _ => rfl⟩
theorem But.trans (h : But g w w') (k : But g w' w'') : But g w w'' :=
  ⟨k.os.trans h.os, k.tape.trans h.tape, k.output.trans h.output, Nat.le_trans h.size k.size, fun i hi hn => (k.block i (Nat.lt_of_lt_of_le hi h.size) hn).trans (h.block i hi hn)⟩
theorem But.set (w : World) (g o : Nat) (v : Value) : But g w (w.setCell ⟨g, o, none⟩ v) := ⟨rfl, rfl, rfl, by simp [World.setCell], fun k _ hn => Below.heap_setCell _ _ _ _ hn⟩
theorem But.step (h : But g a w) (o : Nat) (v : Value) : But g a (w.setCell ⟨g, o, none⟩ v) := h.trans (But.set w g o v)
theorem But.drew (h : But g a w) : But g a w.drew := ⟨h.os, h.tape, h.output, h.size, h.block⟩
theorem But.below (h : But g w w') {B : Nat} (hg : B ≤ g) (hB : B ≤ w.heap.size) : Below B w w' := ⟨h.os, h.tape, h.output, h.size, fun k hk => h.block k (by omega) (by omega)⟩
theorem But.blk (h : But g w w') {b : Nat} {t : TypeId} {cs : Array Value} {fr : Nat × Nat} (hx : Blk w b t cs fr) (hn : b ≠ g) : Blk w' b t cs fr := (h.block b (Blk.lt hx) hn).trans hx
theorem But.cell (h : But g w w') {p : Addr} {v : Value} (hc : w.cell? p = some v) (hn : p.block ≠ g) : w'.cell? p = some v := (World.cell?_of_block (h.block _ (cell_lt hc) hn)).trans hc
theorem But.reads (h : But g w w') {A : Option Addr} {n : Nat} {vs : List Value} (hR : Reads w 1 A n vs) (hn : 0 < n → ∀ a, A = some a → a.block ≠ g) : Reads w' 1 A n vs := by
  refine ⟨hR.1, fun h0 => ?_⟩
  obtain ⟨b, o, rfl, hc⟩ := hR.2 h0
  exact ⟨b, o, rfl, fun j u hu => h.cell (hc j u hu) (hn h0 ⟨b, o, none⟩ rfl)⟩
end
end Go.Proofs.YtjhlpkhfdghngaaGreatDoor
namespace Go.Proofs.YtjhlpkhfdghngaaGreatDoor
open Go.RowKit Go.Sort
set_option linter.unusedVariables false
set_option linter.unusedSimpArgs false
set_option maxRecDepth 100000
theorem itoa_size2 (n : Int) (h0 : 0 ≤ n) (h1 : n ≤ 1099511627777) : (itoaB n).size ≤ 13 := by
  rw [Lib.size_eq, itoa_dec n h0]
  exact (dec_len n.toNat (by omega)).1
theorem orT_size2 {a b : ByteArray} {B : Nat} (ha : a.size ≤ B) (hb : b.size ≤ B) : (orT a b).size ≤ B := by
  unfold orT; split <;> assumption
theorem joinT_size (xs : List ByteArray) (B n : Nat) (h : ∀ x ∈ xs, x.size ≤ B) (hn : xs.length ≤ n) : (joinT xs).size ≤ n * (B + 1) + 1 := by
  unfold joinT
  refine orT_size2 ?_ (by show 1 ≤ _; omega)
  have h1 := join_le 44 B (xs.map (·.data.toList)) (by
    intro y hy
    obtain ⟨z, hz, rfl⟩ := List.mem_map.1 hy
    have := h z hz
    rwa [Lib.size_eq] at this)
  rw [List.length_map] at h1
  have h2 : xs.length * (B + 1) ≤ n * (B + 1) := Nat.mul_le_mul_right _ hn
  unfold commaT
  rw [Lib.size_eq]
  show (Lib.join _ _).length ≤ _
  omega
theorem textC_size {c : CondV} (hv : validC c = true) (hf : fewV c = true) : (textC c).size ≤ 100000 := by
  have ok := (valid_iff c).1 hv
  unfold fewV fewC at hf
  simp only [Bool.and_eq_true, decide_eq_true_eq, List.all_eq_true] at hf
  obtain ⟨⟨⟨⟨⟨h1, h2⟩, h3⟩, h4⟩, h5⟩, h6⟩ := hf
  have f0 := itoa_size2 c.fr ok.fr0 (by have := ok.fr1; omega)
  have f1 := itoa_size2 c.till ok.to0 ok.to1
  have f6 := itoa_size2 c.us ok.us0 (by have := ok.us1; omega)
  have f2 : (orT c.pat ⟨#[126]⟩).size ≤ 1000 := orT_size2 h4 (by decide)
  have f3 := joinT_size c.cl 100 40 (fun x hx => h5 x hx) h1
  have f4 := joinT_size c.co 100 40 (fun x hx => h6 x hx) h2
  have f5 := joinT_size (c.si.map itoaB) 13 70 (by
    intro x hx
    obtain ⟨n, hn, rfl⟩ := List.mem_map.1 hx
    have hs := ok.si n hn
    simp only [siteB, Bool.and_eq_true, decide_eq_true_eq] at hs
    exact itoa_size2 n (by omega) (by omega)) (by rw [List.length_map]; exact h3)
  have hj := join_le 32 5000 ((fieldsC c).map (·.data.toList)) (by
    intro y hy
    obtain ⟨z, hz, rfl⟩ := List.mem_map.1 hy
    rw [← Lib.size_eq]
    simp only [fieldsC, List.mem_cons, List.not_mem_nil, or_false] at hz
    rcases hz with rfl | rfl | rfl | rfl | rfl | rfl | rfl <;> omega)
  unfold textC
  rw [Lib.size_eq]
  show (Lib.join _ _).length ≤ _
  have hl : ((fieldsC c).map (·.data.toList)).length = 7 := rfl
  rw [hl] at hj
  omega
end Go.Proofs.YtjhlpkhfdghngaaGreatDoor
namespace Go.Proofs.YtjhlpkhfdghngaaGreatDoor
open Go.RowKit Go.ChangeShapes Go.WideShapes
section
variable {H : Type} {enc : TypeId × Value → H} {P : Program}
def rowed (P : Program) (ts : List TypeId) : Bool := ts.all fun t => P.readableRec t && decide (t < P.types.size)
theorem args_stay (hl : laidOutB P = true) {W W' : World} (hb : Below W.heap.size W W') (sp : Nat → Bool) :
    ∀ {ts : List TypeId} {vs : List Value} {ds : List (DataW H)} {ps : List MemPlace}, rowed P ts = true → DataW.TrodAll enc P W 0 (fun _ => true) true ts vs ds ps → (∀ x ∈ ps, x.block < W.heap.size) → (∀ x ∈ ps, sp x.block = true) → DataW.TrodAll enc P W' 0 sp true ts vs ds ps
  | [], vs, ds, ps, _, h, _, _ => by
    obtain ⟨rfl, rfl, rfl⟩ := trodAll_nil h
    exact trodAll_mk0
  | t :: ts, vs, ds, ps, hr, h, h1, h2 => by
    obtain ⟨v, vs', d, ds', p, q, rfl, rfl, rfl, hv, hs⟩ := trodAll_cons h
    simp only [rowed, List.all_cons, Bool.and_eq_true, decide_eq_true_eq] at hr
    exact trodAll_cons_mk (WideElems.Trod_stays hl hr.1.1 hr.1.2 hv (fun x hx => hb.same (h1 x (by simp [hx]))) (fun x hx => h2 x (by simp [hx])))
      (args_stay hl hb sp (by simpa [rowed] using hr.2) hs (fun x hx => h1 x (by simp [hx])) (fun x hx => h2 x (by simp [hx])))
theorem bool_reads {t : TypeId} {W : World} {b : Nat} {sp : Nat → Bool} {hd : Bool} (ht : P.underlying t = some .bool) (x : Bool) : DataW.TrodAll enc P W b sp hd [t] [.bool x] [.lit (.bool x)] [] := trodAll_mk1 (shut_bool ht x)
theorem law_post {f : Func} {s : ChangeSpec} {apart fresh handsOn again : Bool} {W W' : World} {args : Array Value} {ds gs : List (DataW H)} {before : List MemPlace} {t : TypeId}
    (hW : DataW.Whole enc P f.params.toList s.vars apart W args.toList ds gs before) (hvars : s.vars = []) (hl : laidOutB P = true) (hrow : rowed P f.params.toList = true) (hres : f.resultTypes = #[t]) (ht : P.underlying t = some .bool)
    (hfn : s.fn H (ds ++ gs) = { results := [.lit (.bool true)], args := ds }) (hb : Below W.heap.size W W') : s.post enc P f apart fresh handsOn again W args (.bool true) W' := by
  have hlt : ∀ x ∈ before, x.block < W.heap.size := fun x hx => hW.lt x hx
  have hW0 := hW
  obtain ⟨p, q, hA, hV, hp, hfz, hnd⟩ := hW
  rw [hvars] at hV
  obtain ⟨rfl, rfl⟩ := trodVars_none hV
  rw [List.append_nil] at hp
  subst hp
  have hr1 : (Value.bool true).resultList f.resultTypes.size = [.bool true] := by rw [hres]; rfl
  have hr2 : f.resultTypes.toList = [t] := by rw [hres]
  have hvs : ∀ sp, DataW.TrodVars enc P W' sp s.vars [] [] := fun sp => by rw [hvars]; rfl
  refine ⟨ds, [], before, [], before, [], hW0, ?_, ?_, ?_, ?_, fun _ => ⟨?_, .lit (.bool true) :: ds, [], before, ?_, fun x hx _ => hx⟩⟩
  · rw [hfn, hr1, hr2]; exact bool_reads ht true
  · rw [hfn]; exact args_stay hl hb _ hrow hA hlt (fun x hx => by simpa using hlt x hx)
  · rw [hfn]; exact hvs _
  · exact World.keptBut_mono (fun x hx => ⟨hx, .inr (.inl hx)⟩) (hb.frame (· ∈ before))
  · exact ok_one hres rfl (okWide_bool_mk ht true)
  · refine ⟨before, [], ?_, hvs _, by simp, ?_, hnd⟩
    · rw [hr1, hr2]
      have := trodAll_append (args_stay hl hb (fun _ => true) hrow hA hlt (fun _ _ => rfl)) (bool_reads (enc := enc) (P := P) (W := W') (b := 0) (sp := fun _ => true) (hd := true) ht true)
      simpa using this
    · intro b off hx
      rw [hb.frozen (hlt _ hx)]
      exact hfz b off hx
end
end Go.Proofs.YtjhlpkhfdghngaaGreatDoor
