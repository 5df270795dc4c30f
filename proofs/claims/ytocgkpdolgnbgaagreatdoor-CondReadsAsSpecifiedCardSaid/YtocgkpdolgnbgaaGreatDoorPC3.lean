/- Conditions in memory; what the specification's Few and FewAsk return, and the package's allows and pattern. -/
import Derived.Test.YtocgkpdolgnbgaaGreatDoorPC1
import Derived.Test.YtocgkpdolgnbgaaGreatDoorPGC
import Derived.Deep.DeepCutAuto
import Derived.Test.YtocgkpdolgnbgaaGreatDoorProg
import Derived.WalkKit
import Derived.WalkSpells
import Derived.WalkLawsBesides
import Derived.Below
import Derived.Deep.QuietTactic
import Derived.BigQuiet
import Derived.Lib.QuietBelow
import Derived.Lib.Strings
import Derived.Lib.Hide
import Derived.Deep.RegionWith
import Derived.Deep.RegionHeld3
import Derived.Lib.IndexBytes
namespace Go.Proofs.YtocgkpdolgnbgaaGreatDoor
open Go.RowKit Go.Sort
set_option linter.unusedVariables false
set_option linter.unusedSimpArgs false
set_option maxRecDepth 100000
structure CondMem where
  A : Option Addr
  ca : Nat
  B : Option Addr
  cb : Nat
  S : Option Addr
  cs : Nat
structure CondReads (w : World) (c : CondV) (m : CondMem) : Prop where
  cl : Reads w 1 m.A c.cl.length (c.cl.map .string)
  co : Reads w 1 m.B c.co.length (c.co.map .string)
  si : Reads w 1 m.S c.si.length (c.si.map (.int .i64))
theorem CondReads.keep {w w' : World} {c : CondV} {m : CondMem} (h : CondReads w c m) (hb : Below w.heap.size w w') : CondReads w' c m := ⟨h.cl.keep hb, h.co.keep hb, h.si.keep hb⟩
def CondMem.val (c : CondV) (m : CondMem) : Value := .agg #[.int .i64 c.fr, .int .i64 c.till, .string c.pat, .slice m.A c.cl.length m.ca, .slice m.B c.co.length m.cb, .slice m.S c.si.length m.cs, .int .i64 c.us]
def CBox (w : World) (g : Nat) (fr till : Int) (pat : ByteArray) (A : Option Addr) (na ca : Nat) (B : Option Addr) (nb cb : Nat) (S : Option Addr) (ns cs : Nat) (us : Int) : Prop := Blk w g 25 #[.int .i64 fr, .int .i64 till, .string pat, .slice A na ca, .slice B nb cb, .slice S ns cs, .int .i64 us] (0, 0)
section
variable {w : World} {g : Nat} {fr till us : Int} {pat : ByteArray} {A B S : Option Addr} {na ca nb cb ns cs : Nat}
theorem CBox.facts (h : CBox w g fr till pat A na ca B nb cb S ns cs us) :
    w.cell? ⟨g, 0, none⟩ = some (.int .i64 fr) ∧ w.cell? ⟨g, 1, none⟩ = some (.int .i64 till) ∧ w.cell? ⟨g, 2, none⟩ = some (.string pat) ∧ w.cell? ⟨g, 3, none⟩ = some (.slice A na ca) ∧ w.cell? ⟨g, 4, none⟩ = some (.slice B nb cb) ∧ w.cell? ⟨g, 5, none⟩ = some (.slice S ns cs) ∧ w.cell? ⟨g, 6, none⟩ = some (.int .i64 us) :=
  ⟨Blk.cell h 0, Blk.cell h 1, Blk.cell h 2, Blk.cell h 3, Blk.cell h 4, Blk.cell h 5, Blk.cell h 6⟩
end
def fewC (na nb ns : Nat) (pat : ByteArray) (cl co : List ByteArray) : Bool := decide (na ≤ 40) && decide (nb ≤ 40) && decide (ns ≤ 70) && decide (pat.size ≤ 1000) && cl.all (fun x => decide (x.size ≤ 100)) && co.all (fun x => decide (x.size ≤ 100))
theorem all_take2 {α : Type} {p : α → Bool} {l : List α} {k : Nat} {x : α} (h : (l.take k).all p = true) (hx : l[k]? = some x) (hp : p x = true) : (l.take (k + 1)).all p = true := by
  rw [List.take_add_one, hx]
  simp [h, hp]
theorem all_false2 {α : Type} {p : α → Bool} {l : List α} {k : Nat} {x : α} (hx : l[k]? = some x) (hp : p x = false) : l.all p = false := by
  rw [List.all_eq_false]
  exact ⟨x, List.mem_of_getElem? hx, by rw [hp]; decide⟩
set_option maxHeartbeats 4000000 in
theorem rFew_any (fr till us : Int) (pat : ByteArray) (A B S : Option Addr) (na ca nb cb ns cs : Nat) (cl co : List ByteArray) (w : World) (hA : Reads w 1 A na (cl.map .string)) (hB : Reads w 1 B nb (co.map .string)) :
    Calls Tryz.prog 10 #[.agg #[.int .i64 fr, .int .i64 till, .string pat, .slice A na ca, .slice B nb cb, .slice S ns cs, .int .i64 us]] w (Ret w (.bool (fewC na nb ns pat cl co))) := by
  have hna : cl.length = na := by have := hA.1; simp at this; omega
  have hnb : co.length = nb := by have := hB.1; simp at this; omega
  obtain ⟨V, hV⟩ : ∃ V, V = fewC na nb ns pat cl co := ⟨_, rfl⟩
  rw [← hV]
  unfold fewC at hV
  have HA := Lib.hid hA; have HB := Lib.hid hB; have HNA := Lib.hid hna; have HNB := Lib.hid hnb
  clear hA hB hna hnb
  by_cases h1 : na ≤ 40
  rotate_left
  · obtain rfl : V = false := by rw [hV]; simp [h1]
    have d1 : decide ((40 : Int) < (na : Int)) = true := decide_eq_true (by omega)
    clear hV
    go_enter Tryz.func10, Tryz.ntmps10
    go_wp2
    go_ret
    exact ⟨rfl, by (repeat (first | exact .refl _ _ | assumption | refine .drew ?_ | refine balloc ?_ _ | refine bdrewN ?_ _ | refine .setCell ?_ (by simp <;> omega) _ | refine bstep ?_ (by assumption)))⟩
  have d1 : decide ((40 : Int) < (na : Int)) = false := decide_eq_false (by omega)
  by_cases h2 : nb ≤ 40
  rotate_left
  · obtain rfl : V = false := by rw [hV]; simp [h2]
    have d2 : decide ((40 : Int) < (nb : Int)) = true := decide_eq_true (by omega)
    clear hV
    go_enter Tryz.func10, Tryz.ntmps10
    go_wp2
    go_ret
    exact ⟨rfl, by (repeat (first | exact .refl _ _ | assumption | refine .drew ?_ | refine balloc ?_ _ | refine bdrewN ?_ _ | refine .setCell ?_ (by simp <;> omega) _ | refine bstep ?_ (by assumption)))⟩
  have d2 : decide ((40 : Int) < (nb : Int)) = false := decide_eq_false (by omega)
  by_cases h3 : ns ≤ 70
  rotate_left
  · obtain rfl : V = false := by rw [hV]; simp [h3]
    have d3 : decide ((70 : Int) < (ns : Int)) = true := decide_eq_true (by omega)
    clear hV
    go_enter Tryz.func10, Tryz.ntmps10
    go_wp2
    go_ret
    exact ⟨rfl, by (repeat (first | exact .refl _ _ | assumption | refine .drew ?_ | refine balloc ?_ _ | refine bdrewN ?_ _ | refine .setCell ?_ (by simp <;> omega) _ | refine bstep ?_ (by assumption)))⟩
  have d3 : decide ((70 : Int) < (ns : Int)) = false := decide_eq_false (by omega)
  by_cases h4 : pat.size ≤ 1000
  rotate_left
  · obtain rfl : V = false := by rw [hV]; simp [h4]
    have d4 : decide ((1000 : Int) < (pat.size : Int)) = true := decide_eq_true (by omega)
    clear hV
    go_enter Tryz.func10, Tryz.ntmps10
    go_wp2
    go_ret
    exact ⟨rfl, by (repeat (first | exact .refl _ _ | assumption | refine .drew ?_ | refine balloc ?_ _ | refine bdrewN ?_ _ | refine .setCell ?_ (by simp <;> omega) _ | refine bstep ?_ (by assumption)))⟩
  have d4 : decide ((1000 : Int) < (pat.size : Int)) = false := decide_eq_false (by omega)
  have hv2 : V = (cl.all (fun x => decide (x.size ≤ 100)) && co.all (fun x => decide (x.size ≤ 100))) := by rw [hV]; simp [h1, h2, h3, h4]
  have HV := Lib.hid hv2
  clear hV hv2
  go_enter Tryz.func10, Tryz.ntmps10
  go_wp2
  have hX0 : CBox (w.alloc (.cells #[.int .i64 fr, .int .i64 till, .string pat, .slice A na ca, .slice B nb cb, .slice S ns cs, .int .i64 us] 25)) w.heap.size fr till pat A na ca B nb cb S ns cs us := World.alloc_heap_new _ _
  go_loopw [3] (fun vi wr => ∃ k : Nat, vi = .int .i64 k ∧ k ≤ na ∧ Hid ((cl.take k).all (fun x => decide (x.size ≤ 100)) = true) ∧ CBox wr w.heap.size fr till pat A na ca B nb cb S ns cs us ∧ Below w.heap.size w wr) (fun i _ => na - (intOf i).toNat)
  case atStart => exact ⟨0, rfl, Nat.zero_le _, Lib.hid (by simp), hX0, balloc (Below.refl _ _) _⟩
  case round =>
    clear hX0
    obtain ⟨k, rfl, hk, HK, hX, hbr⟩ := hrel
    obtain ⟨x0, x1, x2, x3, x4, x5, x6⟩ := hX.facts
    by_cases hlt : k < na
    · obtain ⟨x, hx⟩ : ∃ x, cl[k]? = some x := ⟨_, List.getElem?_eq_getElem (by have := HNA.out; omega)⟩
      obtain ⟨b, o, rfl, hcell⟩ := (HA.out.keep hbr).2 (by omega)
      have hc1 : wr.cell? ⟨b, o + k, none⟩ = some (.string x) := hcell k _ (by simp [hx])
      have hk0 : (0 : Int) ≤ (k : Int) := by omega
      have hk1 : (k : Int) < (na : Int) := by omega
      by_cases hs : x.size ≤ 100
      · have HK2 : Hid ((cl.take (k + 1)).all (fun x => decide (x.size ≤ 100)) = true) := Lib.hid (all_take2 HK.out hx (by simpa using hs))
        have d5 : decide ((100 : Int) < (x.size : Int)) = false := decide_eq_false (by omega)
        clear hcell hx HK
        go_wp2
        exact ⟨⟨k + 1, by go_num, by omega, HK2, hX, hbr⟩, by simp [intOf]; omega⟩
      · obtain rfl : V = false := by rw [HV.out, all_false2 hx (by simpa using hs)]; rfl
        have d5 : decide ((100 : Int) < (x.size : Int)) = true := decide_eq_true (by omega)
        clear hcell hx HK
        go_wp2
        go_ret
        exact ⟨rfl, hbr⟩
    · obtain rfl : k = na := by omega
      have hall : cl.all (fun x => decide (x.size ≤ 100)) = true := by
        have := HK.out
        rwa [List.take_of_length_le (by have := HNA.out; omega)] at this
      have hv3 : V = co.all (fun x => decide (x.size ≤ 100)) := by rw [HV.out, hall, Bool.true_and]
      have HV2 := Lib.hid hv3
      clear hall hv3 HK HV
      go_wp2
      clear x0 x1 x2 x3 x4 x5 x6
      obtain ⟨wo, rfl⟩ : ∃ wo : World, wo = wr := ⟨_, rfl⟩
      go_loopw [4] (fun vi wz => ∃ j : Nat, vi = .int .i64 j ∧ j ≤ nb ∧ Hid ((co.take j).all (fun x => decide (x.size ≤ 100)) = true) ∧ CBox wz w.heap.size fr till pat A k ca B nb cb S ns cs us ∧ Below w.heap.size w wz) (fun i _ => nb - (intOf i).toNat)
      case atStart => exact ⟨0, rfl, Nat.zero_le _, Lib.hid (by simp), hX, hbr⟩
      case round =>
        clear hX hbr
        obtain ⟨j, rfl, hj, HJ, hX, hbr⟩ := hrel
        obtain ⟨x0, x1, x2, x3, x4, x5, x6⟩ := hX.facts
        by_cases hlt2 : j < nb
        · obtain ⟨x, hx⟩ : ∃ x, co[j]? = some x := ⟨_, List.getElem?_eq_getElem (by have := HNB.out; omega)⟩
          obtain ⟨b, o, rfl, hcell⟩ := (HB.out.keep hbr).2 (by omega)
          have hc1 : wr.cell? ⟨b, o + j, none⟩ = some (.string x) := hcell j _ (by simp [hx])
          have hj0 : (0 : Int) ≤ (j : Int) := by omega
          have hj1 : (j : Int) < (nb : Int) := by omega
          by_cases hs : x.size ≤ 100
          · have HJ2 : Hid ((co.take (j + 1)).all (fun x => decide (x.size ≤ 100)) = true) := Lib.hid (all_take2 HJ.out hx (by simpa using hs))
            have d5 : decide ((100 : Int) < (x.size : Int)) = false := decide_eq_false (by omega)
            clear hcell hx HJ
            go_wp2
            exact ⟨⟨j + 1, by go_num, by omega, HJ2, hX, hbr⟩, by simp [intOf]; omega⟩
          · obtain rfl : V = false := by rw [HV2.out, all_false2 hx (by simpa using hs)]
            have d5 : decide ((100 : Int) < (x.size : Int)) = true := decide_eq_true (by omega)
            clear hcell hx HJ
            go_wp2
            go_ret
            exact ⟨rfl, hbr⟩
        · obtain rfl : j = nb := by omega
          have hall : co.all (fun x => decide (x.size ≤ 100)) = true := by
            have := HJ.out
            rwa [List.take_of_length_le (by have := HNB.out; omega)] at this
          obtain rfl : V = true := by rw [HV2.out, hall]
          go_wp2
          go_ret
          exact ⟨rfl, hbr⟩
end Go.Proofs.YtocgkpdolgnbgaaGreatDoor
