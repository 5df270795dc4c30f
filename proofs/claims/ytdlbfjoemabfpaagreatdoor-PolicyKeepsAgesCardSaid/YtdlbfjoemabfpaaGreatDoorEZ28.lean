/- What the condition package's Text returns. -/
import Derived.Test.YtdlbfjoemabfpaaGreatDoorEZ14
import Derived.Test.YtdlbfjoemabfpaaGreatDoorEZ27
import Derived.Test.YtdlbfjoemabfpaaGreatDoorEZ12
import Derived.Test.YtdlbfjoemabfpaaGreatDoorEZ10
import Derived.Lib.ItoaLen
import Derived.Deep.RegionHeld3
import Derived.Test.YtdlbfjoemabfpaaGreatDoorProg
import Derived.WalkKit
import Derived.WalkSpells
import Derived.WalkLawsBesides
import Derived.Below
import Derived.Deep.QuietTactic
import Derived.BigQuiet
import Derived.Lib.QuietBelow
import Derived.Lib.Strings
import Derived.Lib.Hide
import Derived.Deep.RegionWith
import Derived.Lib.IndexBytes
import Derived.Test.YtdlbfjoemabfpaaGreatDoorEZ2
import Derived.Test.YtdlbfjoemabfpaaGreatDoorEZ25
import Derived.Test.YtdlbfjoemabfpaaGreatDoorEZ4
import Derived.Test.YtdlbfjoemabfpaaGreatDoorEZ23
import Derived.Deep.DeepCutAuto
import Derived.RegionTactic
import Derived.ChangeAlike
import Derived.Test.YtdlbfjoemabfpaaGreatDoorEZ3
import Derived.KernelRfl
import Derived.Test.YtdlbfjoemabfpaaGreatDoorEZ9
import Derived.Test.YtdlbfjoemabfpaaGreatDoorEZ15
import Derived.Laws.Tables
namespace Go.Proofs.YtdlbfjoemabfpaaGreatDoor
open Go.RowKit Go.Sort
set_option linter.unusedVariables false
set_option linter.unusedSimpArgs false
set_option maxRecDepth 100000
def fieldsC (c : CondV) : List ByteArray := [itoaB c.fr, itoaB c.till, orT c.pat ⟨#[126]⟩, joinT c.cl, joinT c.co, joinT (c.si.map itoaB), itoaB c.us]
def textC (c : CondV) : ByteArray := ⟨(Lib.join ((fieldsC c).map (·.data.toList)) [32]).toArray⟩
theorem join_le (c : UInt8) (B : Nat) (l : List (List UInt8)) (hl : ∀ x ∈ l, x.length ≤ B) : (Lib.join l [c]).length ≤ l.length * (B + 1) := by
  cases l with
  | nil => simp [Lib.join_nil]
  | cons x r =>
    have hx := hl x (by simp)
    have hr : Lib.lens r ≤ r.length * B := lens_le' B r (fun y hy => hl y (by simp [hy]))
    rw [Lib.join_cons, List.length_append, Lib.joinTail_length]
    simp only [List.length_cons, List.length_nil, Nat.zero_add, Nat.one_mul]
    have e1 : (r.length + 1) * (B + 1) = r.length * B + r.length + B + 1 := by rw [Nat.succ_mul, Nat.mul_succ]; omega
    omega
theorem joinT_len (B : Nat) (xs : List ByteArray) (h : ∀ x ∈ xs, x.size ≤ B) : (joinT xs).size ≤ xs.length * (B + 1) + 1 := by
  unfold joinT orT
  split
  · show 1 ≤ _; omega
  · have := join_le 44 B (xs.map (·.data.toList)) (by
      intro y hy
      obtain ⟨z, hz, rfl⟩ := List.mem_map.1 hy
      have := h z hz; rw [Lib.size_eq] at this; exact this)
    rw [List.length_map] at this
    show (Lib.join (xs.map (·.data.toList)) [44]).toArray.size ≤ _
    rw [List.size_toArray]
    omega
theorem itoa_size (n : Int) (h0 : -9223372036854775808 ≤ n) (h1 : n ≤ 9223372036854775807) : (itoaB n).size ≤ 21 := Lib.itoa_length_le n h0 h1
theorem comma_le (B : Nat) (xs : List ByteArray) (h : ∀ x ∈ xs, x.size ≤ B) (hn : xs.length ≤ 1000000) (hB : B ≤ 100000) : (Lib.join (xs.map (·.data.toList)) [44]).length ≤ 140737488355328 := by
  have := join_le 44 B (xs.map (·.data.toList)) (by
    intro y hy
    obtain ⟨z, hz, rfl⟩ := List.mem_map.1 hy
    have := h z hz; rw [Lib.size_eq] at this; exact this)
  rw [List.length_map] at this
  have h2 : xs.length * (B + 1) ≤ 1000000 * 100001 := Nat.mul_le_mul hn (by omega)
  omega
theorem orT_size (a : ByteArray) : (orT a ⟨#[126]⟩).size ≤ a.size + 1 := by
  unfold orT
  split
  · show 1 ≤ _; omega
  · omega
theorem two_cells1 (W : World) (t : Nat) (a b : Value) : (W.alloc (.cells #[a, b] t)).cell? ⟨W.heap.size, 0, none⟩ = some a ∧ (W.alloc (.cells #[a, b] t)).cell? ⟨W.heap.size, 1, none⟩ = some b := two_cells0 W t a b _ rfl
theorem join7 (f0 f1 f2 f3 f4 f5 f6 : ByteArray) (h : ∀ x ∈ [f0, f1, f2, f3, f4, f5, f6], x.size ≤ 200000000000) (W : World) :
    Calls Tryz.prog 59 #[.slice (some ⟨W.heap.size, 0, none⟩) 7 7, .string ⟨#[32]⟩] (W.alloc (.cells #[.string f0, .string f1, .string f2, .string f3, .string f4, .string f5, .string f6] 9)) (Ret (W.alloc (.cells #[.string f0, .string f1, .string f2, .string f3, .string f4, .string f5, .string f6] 9)) (.string ⟨(Lib.join ([f0, f1, f2, f3, f4, f5, f6].map (·.data.toList)) [32]).toArray⟩)) := by
  have hb : Blk (W.alloc (.cells #[.string f0, .string f1, .string f2, .string f3, .string f4, .string f5, .string f6] 9)) W.heap.size 9 #[.string f0, .string f1, .string f2, .string f3, .string f4, .string f5, .string f6] (0, 0) := World.alloc_heap_new _ _
  refine (Tryz.strings_Join W.heap.size 0 7 [f0, f1, f2, f3, f4, f5, f6] ⟨#[32]⟩ _ (fun j x hj => ?_) (by simp) (by simp) (by simp) ?_)
  · have := hb.cell j
    rw [Nat.zero_add, this]
    rcases j with _ | _ | _ | _ | _ | _ | _ | j <;> simp at hj ⊢ <;> first | exact hj | exact congrArg _ hj | skip
  · have := join_le 32 200000000000 ([f0, f1, f2, f3, f4, f5, f6].map (·.data.toList)) (by
      intro y hy
      obtain ⟨z, hz, rfl⟩ := List.mem_map.1 hy
      have := h z hz; rw [Lib.size_eq] at this; exact this)
    rw [List.length_map] at this
    simp only [List.length_cons, List.length_nil] at this
    show (Lib.join ([f0, f1, f2, f3, f4, f5, f6].map (·.data.toList)) [32]).length ≤ _
    omega
set_option maxHeartbeats 8000000 in
theorem text_valid (c : CondV) (m : CondMem) (w : World) (hR : CondReads w c m) (hc : CondFits c) (hv : validC c = true) (hE : Env w) (hT : Tab w) : Calls Tryz.prog 58 #[CondMem.val c m] w (Ret w (.tuple #[.string (textC c), .int .i64 0])) := by
  have ok := (valid_iff c).1 hv
  have c1 := fun W (hb : Below w.heap.size w W) => hv ▸ condValid_any c m W (hR.keep hb) hc.p hc.cl hc.co hc.n1 hc.n2 hc.n3 (hE.keep hb)
  have ci := fun n (h0 : -9223372036854775808 ≤ n) (h1 : n ≤ 9223372036854775807) W (hb : Below w.heap.size w W) => itoa_any n W h0 h1 (hT.keep hb)
  have hfr := ok.fr0; have hfr1 := ok.fr1; have hti := ok.to0; have hti1 := ok.to1; have hus := ok.us0; have hus1 := ok.us1
  have k1 := ci c.fr (by omega) (by omega)
  have k2 := ci c.till (by omega) (by omega)
  have k3 := ci c.us (by omega) (by omega)
  have hs1 := itoa_size c.fr (by omega) (by omega)
  have hs2 := itoa_size c.till (by omega) (by omega)
  have hs3 := itoa_size c.us (by omega) (by omega)
  have hs4 := orT_size c.pat
  have hsi : ∀ x ∈ c.si, 0 ≤ x ∧ x < 64 := fun x hx => by have := ok.si x hx; unfold siteB at this; simpa using this
  have hss : ∀ y ∈ c.si.map itoaB, y.size ≤ 21 := fun y hy => by
    obtain ⟨x, hx, rfl⟩ := List.mem_map.1 hy
    have := hsi x hx
    exact itoa_size x (by omega) (by omega)
  have hs5 := joinT_len 100000 c.cl hc.cl
  have hs6 := joinT_len 100000 c.co hc.co
  have hs7 := joinT_len 21 (c.si.map itoaB) hss
  rw [List.length_map] at hs7
  have j1 := fun W (hb : Below w.heap.size w W) => joinS_any 97 (enters_of Tryz.func97 (by kernel_rfl) rfl) id m.A c.cl.length m.ca c.cl W (fun x hx W' _ => sclone_any x W' (by have := hc.cl x hx; omega)) (hR.cl.keep hb) hc.n1 (by rw [List.map_id]; exact comma_le 100000 c.cl hc.cl hc.n1 (by omega))
  have j2 := fun W (hb : Below w.heap.size w W) => joinS_any 97 (enters_of Tryz.func97 (by kernel_rfl) rfl) id m.B c.co.length m.cb c.co W (fun x hx W' _ => sclone_any x W' (by have := hc.co x hx; omega)) (hR.co.keep hb) hc.n2 (by rw [List.map_id]; exact comma_le 100000 c.co hc.co hc.n2 (by omega))
  have j3 := fun W (hb : Below w.heap.size w W) => joinI_any 57 (enters_of Tryz.func57 (by kernel_rfl) rfl) itoaB m.S c.si.length m.cs c.si W (fun x hx W' hb' => itoa_any x W' (by have := hsi x hx; omega) (by have := hsi x hx; omega) (hT.keep (bstep hb hb'))) (hR.si.keep hb) hc.n3 (comma_le 21 _ hss (by rw [List.length_map]; exact hc.n3) (by omega))
  rw [List.map_id] at j1 j2
  have cO := fun (g cc : Nat) (W : World) h0 h1 => cmpOr_any g cc c.pat ⟨#[126]⟩ W h0 h1
  have hor : (if c.pat.size = 0 then (⟨#[126]⟩ : ByteArray) else c.pat) = orT c.pat ⟨#[126]⟩ := rfl
  rw [hor] at cO
  have hn1 := hc.n1; have hn2 := hc.n2; have hn3 := hc.n3; have hp := hc.p
  have m1 : c.cl.length * 100001 ≤ 1000000 * 100001 := Nat.mul_le_mul hn1 (Nat.le_refl _)
  have m2 : c.co.length * 100001 ≤ 1000000 * 100001 := Nat.mul_le_mul hn2 (Nat.le_refl _)
  have m3 : c.si.length * 22 ≤ 1000000 * 22 := Nat.mul_le_mul hn3 (Nat.le_refl _)
  have cJ := join7 (itoaB c.fr) (itoaB c.till) (orT c.pat ⟨#[126]⟩) (joinT c.cl) (joinT c.co) (joinT (c.si.map itoaB)) (itoaB c.us) (by
    intro x hx
    simp only [List.mem_cons, List.not_mem_nil, or_false] at hx
    rcases hx with rfl | rfl | rfl | rfl | rfl | rfl | rfl <;> omega)
  unfold textC fieldsC
  generalize (⟨(Lib.join ([itoaB c.fr, itoaB c.till, orT c.pat ⟨#[126]⟩, joinT c.cl, joinT c.co, joinT (c.si.map itoaB), itoaB c.us].map (·.data.toList)) [32]).toArray⟩ : ByteArray) = T at *
  generalize itoaB c.fr = u1 at *
  generalize itoaB c.till = u2 at *
  generalize itoaB c.us = u3 at *
  generalize orT c.pat ⟨#[126]⟩ = pp at *
  generalize joinT c.cl = l1 at *
  generalize joinT c.co = l2 at *
  generalize joinT (c.si.map itoaB) = l3 at *
  obtain ⟨fr, till, pat, cl, co, si, us⟩ := c
  obtain ⟨A, ca, B, cb, S, cs⟩ := m
  unfold CondMem.val at c1 ⊢
  dsimp only at c1 k1 k2 k3 j1 j2 j3 cO ⊢
  generalize cl.length = na at *
  generalize co.length = nb at *
  generalize si.length = ns at *
  have C1 := Lib.hid c1; have K1 := Lib.hid k1; have K2 := Lib.hid k2; have K3 := Lib.hid k3; have J1 := Lib.hid j1; have J2 := Lib.hid j2; have J3 := Lib.hid j3; have CO := Lib.hid cO; have CJ := Lib.hid cJ
  clear c1 ci k1 k2 k3 j1 j2 j3 cO cJ hor hs1 hs2 hs3 hs4 hs5 hs6 hs7 hss hsi m1 m2 m3 hn1 hn2 hn3 hp hfr hfr1 hti hti1 hus hus1 ok hv hc hR hE hT
  go_enter Tryz.func58, Tryz.ntmps58
  go_upto_region 4 with (go_at_call 49; refine (C1.out _ belB).mono ?_; rintro e w2 ⟨rfl, hb2⟩; have hX2 : CBox w2 w.heap.size fr till pat A na ca B nb cb S ns cs us := Blk.keep (World.alloc_heap_new _ _) hb2; obtain ⟨x0, x1, x2, x3, x4, x5, x6⟩ := hX2.facts; have hbw : Below w.heap.size w w2 := belB)
  clear hX2 hb2
  go_region_held3 (fun w' => w'.cell? ⟨w.heap.size, 0, none⟩ = some (.int .i64 fr) ∧ w'.cell? ⟨w.heap.size, 1, none⟩ = some (.int .i64 till) ∧ w'.cell? ⟨w.heap.size, 2, none⟩ = some (.string pat) ∧ w'.cell? ⟨w.heap.size, 3, none⟩ = some (.slice A na ca) ∧ w'.cell? ⟨w.heap.size, 4, none⟩ = some (.slice B nb cb) ∧ w'.cell? ⟨w.heap.size, 5, none⟩ = some (.slice S ns cs) ∧ w'.cell? ⟨w.heap.size, 6, none⟩ = some (.int .i64 us) ∧ Below w.heap.size w w')
    (first | exact ⟨x0, x1, x2, x3, x4, x5, x6, Below.drew hbw⟩ | (go_split_ands; refine ⟨?_, ?_, ?_, ?_, ?_, ?_, ?_, ?_⟩ <;> first | assumption | (refine Lib.cell?_alloc_some _ ?_; assumption) | (refine balloc ?_ _; assumption) | exact Below.drew (balloc hbw _) | (refine cell_keep hb10 ?_; assumption) | (refine bstep ?_ hb10; assumption) | (refine cell_keep hb9 ?_; assumption) | (refine bstep ?_ hb9; assumption) | (refine cell_keep hb8 ?_; assumption) | (refine bstep ?_ hb8; assumption) | (refine cell_keep hb7 ?_; assumption) | (refine bstep ?_ hb7; assumption) | (refine cell_keep hb6 ?_; assumption) | (refine bstep ?_ hb6; assumption) | (refine cell_keep hb5 ?_; assumption) | (refine bstep ?_ hb5; assumption) | (refine cell_keep hb4 ?_; assumption) | (refine bstep ?_ hb4; assumption) | (refine cell_keep hb3 ?_; assumption) | (refine bstep ?_ hb3; assumption)))
    (first | (go_at_call 57; refine (K1.out _ (by go_split_ands; assumption)).mono ?_; rintro e w3 ⟨rfl, hb3⟩; clear K1) | (go_at_call 57; refine (K2.out _ (by go_split_ands; assumption)).mono ?_; rintro e w4 ⟨rfl, hb4⟩; clear K2) | (go_at_call 98; (first | (with_reducible refine (CO.out w4.heap.size 2 (w4.alloc (.cells #[.string pat, .string ⟨#[126]⟩] 9)) (two_cells1 w4 9 _ _).1 (two_cells1 w4 9 _ _).2).mono ?_) | (with_reducible refine (CO.out w3.heap.size 2 w4 (cell_keep hb4 (two_cells1 w3 9 (.string pat) (.string ⟨#[126]⟩)).1) (cell_keep hb4 (two_cells1 w3 9 (.string pat) (.string ⟨#[126]⟩)).2)).mono ?_) | (have s0 : w3.cell? ⟨w2.heap.size, 0, none⟩ = some (.string pat) := cell_keep hb3 (two_cells1 w2 9 (.string pat) (.string ⟨#[126]⟩)).1; have s1 : w3.cell? ⟨w2.heap.size, 1, none⟩ = some (.string ⟨#[126]⟩) := cell_keep hb3 (two_cells1 w2 9 (.string pat) (.string ⟨#[126]⟩)).2; refine (CO.out w2.heap.size 2 w4 (cell_keep hb4 s0) (cell_keep hb4 s1)).mono ?_; clear s0 s1)); rintro e w5 ⟨rfl, hb5⟩) | (go_at_call 99; refine (J1.out _ (by go_split_ands; assumption)).mono ?_; rintro e w6 ⟨rfl, hb6⟩; clear J1) | (go_at_call 99; refine (J2.out _ (by go_split_ands; assumption)).mono ?_; rintro e w7 ⟨rfl, hb7⟩; clear J2) | (go_at_call 100; refine (J3.out _ (by go_split_ands; assumption)).mono ?_; rintro e w8 ⟨rfl, hb8⟩; clear J3) | (go_at_call 57; refine (K3.out _ (by go_split_ands; assumption)).mono ?_; rintro e w9 ⟨rfl, hb9⟩; clear K3) | (go_at_call 59; refine (CJ.out w9).mono ?_; rintro e w10 ⟨rfl, hb10⟩))
  all_goals go_wp2
  all_goals go_ret2
  all_goals exact ⟨rfl, by go_split_ands; assumption⟩
end Go.Proofs.YtdlbfjoemabfpaaGreatDoor
namespace Go.Proofs.YtdlbfjoemabfpaaGreatDoor
open Go.RowKit Go.Sort
set_option linter.unusedVariables false
set_option linter.unusedSimpArgs false
set_option maxRecDepth 100000
attribute [local go_sem] Oper.semAt_some
theorem reads_lt {w : World} {A : Option Addr} {n : Nat} {vs : List Value} (hR : Reads w 1 A n vs) : 0 < n → ∀ a, A = some a → a.block < w.heap.size := by
  intro hn a ha
  obtain ⟨b, o, e, hc⟩ := hR.2 hn
  rw [e] at ha
  injection ha with ha
  subst ha
  have hl : 0 < vs.length := by have := hR.1; omega
  have := cell_lt (hc 0 _ (List.getElem?_eq_getElem hl))
  exact this
end Go.Proofs.YtdlbfjoemabfpaaGreatDoor
namespace Go.Proofs.YtdlbfjoemabfpaaGreatDoor
open Go.RowKit Go.Sort
set_option linter.unusedVariables false
set_option linter.unusedSimpArgs false
set_option maxRecDepth 100000
attribute [local go_sem] Oper.semAt_some
theorem ints_at {xs : List Int} {k : Nat} {u : Value} (h : (xs.map (Value.int .i64))[k]? = some u) : ∃ x, xs[k]? = some x ∧ u = .int .i64 x := by
  rw [List.getElem?_map, Option.map_eq_some_iff] at h
  obtain ⟨x, hx, rfl⟩ := h
  exact ⟨x, hx, rfl⟩
end Go.Proofs.YtdlbfjoemabfpaaGreatDoor
namespace Go.Proofs.YtdlbfjoemabfpaaGreatDoor
open Go.RowKit Go.Sort
set_option linter.unusedVariables false
set_option linter.unusedSimpArgs false
set_option maxRecDepth 100000
theorem Blk.far {w : World} {g : Nat} {t : TypeId} {cs : Array Value} {fr : Nat × Nat} (h : Blk w g t cs fr) (p : Addr) (u : Value) (hp : g ≠ p.block) : Blk (w.setCell p u) g t cs fr := (Below.heap_setCell w p u g hp).trans h
end Go.Proofs.YtdlbfjoemabfpaaGreatDoor
namespace Go.Proofs.YtdlbfjoemabfpaaGreatDoor
open Go.RowKit Go.Sort
set_option linter.unusedVariables false
set_option linter.unusedSimpArgs false
set_option maxRecDepth 100000
theorem CBox.s0 {w : World} {g : Nat} {fr till us : Int} {pat : ByteArray} {A B S : Option Addr} {na ca nb cb ns cs : Nat} (h : CBox w g fr till pat A na ca B nb cb S ns cs us) (fr' : Int) : CBox (w.setCell ⟨g, 0, none⟩ (.int .i64 fr')) g fr' till pat A na ca B nb cb S ns cs us := Blk.set_ h 0 (.int .i64 fr')
theorem CBox.s1 {w : World} {g : Nat} {fr till us : Int} {pat : ByteArray} {A B S : Option Addr} {na ca nb cb ns cs : Nat} (h : CBox w g fr till pat A na ca B nb cb S ns cs us) (till' : Int) : CBox (w.setCell ⟨g, 1, none⟩ (.int .i64 till')) g fr till' pat A na ca B nb cb S ns cs us := Blk.set_ h 1 (.int .i64 till')
theorem CBox.s2 {w : World} {g : Nat} {fr till us : Int} {pat : ByteArray} {A B S : Option Addr} {na ca nb cb ns cs : Nat} (h : CBox w g fr till pat A na ca B nb cb S ns cs us) (pat' : ByteArray) : CBox (w.setCell ⟨g, 2, none⟩ (.string pat')) g fr till pat' A na ca B nb cb S ns cs us := Blk.set_ h 2 (.string pat')
theorem CBox.s3 {w : World} {g : Nat} {fr till us : Int} {pat : ByteArray} {A B S : Option Addr} {na ca nb cb ns cs : Nat} (h : CBox w g fr till pat A na ca B nb cb S ns cs us) (A' : Option Addr) (na' ca' : Nat) : CBox (w.setCell ⟨g, 3, none⟩ (.slice A' na' ca')) g fr till pat A' na' ca' B nb cb S ns cs us := Blk.set_ h 3 (.slice A' na' ca')
theorem CBox.s4 {w : World} {g : Nat} {fr till us : Int} {pat : ByteArray} {A B S : Option Addr} {na ca nb cb ns cs : Nat} (h : CBox w g fr till pat A na ca B nb cb S ns cs us) (B' : Option Addr) (nb' cb' : Nat) : CBox (w.setCell ⟨g, 4, none⟩ (.slice B' nb' cb')) g fr till pat A na ca B' nb' cb' S ns cs us := Blk.set_ h 4 (.slice B' nb' cb')
theorem CBox.s5 {w : World} {g : Nat} {fr till us : Int} {pat : ByteArray} {A B S : Option Addr} {na ca nb cb ns cs : Nat} (h : CBox w g fr till pat A na ca B nb cb S ns cs us) (S' : Option Addr) (ns' cs' : Nat) : CBox (w.setCell ⟨g, 5, none⟩ (.slice S' ns' cs')) g fr till pat A na ca B nb cb S' ns' cs' us := Blk.set_ h 5 (.slice S' ns' cs')
theorem CBox.s6 {w : World} {g : Nat} {fr till us : Int} {pat : ByteArray} {A B S : Option Addr} {na ca nb cb ns cs : Nat} (h : CBox w g fr till pat A na ca B nb cb S ns cs us) (us' : Int) : CBox (w.setCell ⟨g, 6, none⟩ (.int .i64 us')) g fr till pat A na ca B nb cb S ns cs us' := Blk.set_ h 6 (.int .i64 us')
theorem CBox.put {w : World} {g : Nat} {fr till us : Int} {pat : ByteArray} {A B S : Option Addr} {na ca nb cb ns cs : Nat} (h : CBox w g fr till pat A na ca B nb cb S ns cs us) (fr' till' : Int) (pat' : ByteArray) (A' : Option Addr) (na' ca' : Nat) (B' : Option Addr) (nb' cb' : Nat) (S' : Option Addr) (ns' cs' : Nat) (us' : Int) :
    CBox (((((((w.setCell ⟨g, 0, none⟩ (.int .i64 fr')).setCell ⟨g, 1, none⟩ (.int .i64 till')).setCell ⟨g, 2, none⟩ (.string pat')).setCell ⟨g, 3, none⟩ (.slice A' na' ca')).setCell ⟨g, 4, none⟩ (.slice B' nb' cb')).setCell ⟨g, 5, none⟩ (.slice S' ns' cs')).setCell ⟨g, 6, none⟩ (.int .i64 us')) g fr' till' pat' A' na' ca' B' nb' cb' S' ns' cs' us' :=
  ((((((h.s0 fr').s1 till').s2 pat').s3 A' na' ca').s4 B' nb' cb').s5 S' ns' cs').s6 us'
end Go.Proofs.YtdlbfjoemabfpaaGreatDoor
namespace Go.Proofs.YtdlbfjoemabfpaaGreatDoor
open Go.RowKit Go.Sort
set_option linter.unusedVariables false
set_option linter.unusedSimpArgs false
set_option maxRecDepth 100000
def OkBox (w : World) (g : Nat) (b0 b1 b2 b3 : Bool) : Prop := Blk w g 4 #[.bool b0, .bool b1, .bool b2, .bool b3] (0, 0)
theorem OkBox.facts {w : World} {g : Nat} {b0 b1 b2 b3 : Bool} (h : OkBox w g b0 b1 b2 b3) : w.cell? ⟨g, 0, none⟩ = some (.bool b0) ∧ w.cell? ⟨g, 1, none⟩ = some (.bool b1) ∧ w.cell? ⟨g, 2, none⟩ = some (.bool b2) ∧ w.cell? ⟨g, 3, none⟩ = some (.bool b3) := ⟨Blk.cell h 0, Blk.cell h 1, Blk.cell h 2, Blk.cell h 3⟩
theorem OkBox.s0 {w : World} {g : Nat} {b0 b1 b2 b3 : Bool} (h : OkBox w g b0 b1 b2 b3) (b : Bool) : OkBox (w.setCell ⟨g, 0, none⟩ (.bool b)) g b b1 b2 b3 := Blk.set_ h 0 (.bool b)
theorem OkBox.s1 {w : World} {g : Nat} {b0 b1 b2 b3 : Bool} (h : OkBox w g b0 b1 b2 b3) (b : Bool) : OkBox (w.setCell ⟨g, 1, none⟩ (.bool b)) g b0 b b2 b3 := Blk.set_ h 1 (.bool b)
theorem OkBox.s2 {w : World} {g : Nat} {b0 b1 b2 b3 : Bool} (h : OkBox w g b0 b1 b2 b3) (b : Bool) : OkBox (w.setCell ⟨g, 2, none⟩ (.bool b)) g b0 b1 b b3 := Blk.set_ h 2 (.bool b)
theorem OkBox.s3 {w : World} {g : Nat} {b0 b1 b2 b3 : Bool} (h : OkBox w g b0 b1 b2 b3) (b : Bool) : OkBox (w.setCell ⟨g, 3, none⟩ (.bool b)) g b0 b1 b2 b := Blk.set_ h 3 (.bool b)
end Go.Proofs.YtdlbfjoemabfpaaGreatDoor
namespace Go.Proofs.YtdlbfjoemabfpaaGreatDoor
open Go.RowKit Go.Sort
set_option linter.unusedVariables false
set_option linter.unusedSimpArgs false
set_option maxRecDepth 100000
def cIn (l : List Int) : CondV := ⟨0, 1099511627777, ⟨#[]⟩, [], [], l, 0⟩
def cCo (l : List ByteArray) : CondV := ⟨0, 1099511627777, ⟨#[]⟩, [], l, [], 0⟩
def cA : CondV := ⟨0, 1099511627777, (⟨#[97, 99, 109, 101, 47, 42, 42]⟩ : ByteArray), [], [], [1, 2], 0⟩
def cT (a b : Int) : CondV := ⟨a, b, ⟨#[]⟩, [], [], [], 0⟩
theorem e1 : validC cA = true := by kernel_rfl
theorem e2 : validC (cIn [1, 2]) = true := by kernel_rfl
theorem e3 : validC (cIn [2, 3]) = true := by kernel_rfl
theorem e4 : validC (cIn [3]) = true := by kernel_rfl
theorem e5 : validC (cCo [(⟨#[100, 101]⟩ : ByteArray), (⟨#[102, 114]⟩ : ByteArray)]) = true := by kernel_rfl
theorem e6 : validC (cCo [(⟨#[100, 101]⟩ : ByteArray)]) = true := by kernel_rfl
theorem e7 : validC (cIn []) = true := by kernel_rfl
theorem e8 : validC (cIn allSites) = true := by kernel_rfl
theorem v1 : textC cA = (⟨#[48, 32, 49, 48, 57, 57, 53, 49, 49, 54, 50, 55, 55, 55, 55, 32, 97, 99, 109, 101, 47, 42, 42, 32, 126, 32, 126, 32, 49, 44, 50, 32, 48]⟩ : ByteArray) := by kernel_rfl
theorem v2 : meetC (cIn [1, 2]) (cIn [2, 3]) = cIn [2] := by kernel_rfl
theorem v3 : meetC (cIn [1, 2]) (cIn [3]) = zeroC := by kernel_rfl
theorem v4 : impR (cCo [(⟨#[100, 101]⟩ : ByteArray), (⟨#[102, 114]⟩ : ByteArray)]) (cCo [(⟨#[100, 101]⟩ : ByteArray)]) = (false, ⟨(⟨#[97]⟩ : ByteArray), (⟨#[97]⟩ : ByteArray), (⟨#[102, 114]⟩ : ByteArray), 0, 0, 0⟩) := by kernel_rfl
theorem v5 : impR (cIn []) (cIn allSites) = (true, noAsk) := by kernel_rfl
theorem v6 : emptyR (cT 5 5) = (true, noAsk, 0) := by kernel_rfl
theorem v7 : emptyR (cT 5 6) = (false, ⟨(⟨#[97]⟩ : ByteArray), (⟨#[97]⟩ : ByteArray), (⟨#[97, 97]⟩ : ByteArray), 0, 5, 5⟩, 0) := by kernel_rfl
end Go.Proofs.YtdlbfjoemabfpaaGreatDoor
namespace Go.Proofs.YtdlbfjoemabfpaaGreatDoor
open Go.RowKit Go.Sort
set_option linter.unusedVariables false
set_option linter.unusedSimpArgs false
set_option maxRecDepth 100000
def fewV (c : CondV) : Bool := fewC c.cl.length c.co.length c.si.length c.pat c.cl c.co
theorem few_fits {c : CondV} (h : fewV c = true) : CondFits c := by
  unfold fewV fewC at h
  simp only [Bool.and_eq_true, decide_eq_true_eq, List.all_eq_true] at h
  obtain ⟨⟨⟨⟨⟨h1, h2⟩, h3⟩, h4⟩, h5⟩, h6⟩ := h
  exact ⟨by omega, fun x hx => by have := h5 x hx; omega, fun x hx => by have := h6 x hx; omega, by omega, by omega, by omega⟩
def VBox (w : World) (g : Nat) (c : CondV) (m : CondMem) : Prop := CBox w g c.fr c.till c.pat m.A c.cl.length m.ca m.B c.co.length m.cb m.S c.si.length m.cs c.us
end Go.Proofs.YtdlbfjoemabfpaaGreatDoor
namespace Go.Proofs.YtdlbfjoemabfpaaGreatDoor
open Go.RowKit Go.Sort
set_option linter.unusedVariables false
set_option linter.unusedSimpArgs false
set_option maxRecDepth 100000
def fewA (a : AskV) : Bool := decide (a.addr.size ≤ 5000) && decide (a.client.size ≤ 5000) && decide (a.country.size ≤ 5000)
theorem fewA_fits {a : AskV} (h : fewA a = true) : AskFits a := by
  unfold fewA at h
  simp only [Bool.and_eq_true, decide_eq_true_eq] at h
  exact ⟨by omega, by omega, by omega⟩
theorem few_ask (a : AskV) (w : World) : Calls Tryz.prog 35 #[AskV.val a] w (Ret w (.bool (fewA a))) := rFewAsk_any a w
end Go.Proofs.YtdlbfjoemabfpaaGreatDoor
namespace Go.Proofs.YtdlbfjoemabfpaaGreatDoor
open Go.RowKit Go.Sort
set_option linter.unusedVariables false
set_option linter.unusedSimpArgs false
set_option maxRecDepth 100000
section
variable {P : Program}
theorem wp_build_as {o : Oper} {a : Act} {w : World} {K : Act → World → Prop} {Q : Exit → Act → World → Prop} (t : TypeId) (parts : Array (Nat × Operand)) (ho : o.op = .build t parts) (ps : Array (Nat × Value)) (hp : (parts.map fun (i, x) => (i, a.eval x)) = ps)
    (v : Value) (hr : (Instr.build t ps).run P w = .ok v w) (h : K (a.put o.dst v) w) : o.wp P a w K Q := by
  subst hp
  unfold Oper.wp execOp
  simp only [ho, Sem.run_bind, Sem.run_pure, Result.andThen_ok, hr]
  exact h
theorem wp_buildSlice_as {o : Oper} {a : Act} {w : World} {K : Act → World → Prop} {Q : Exit → Act → World → Prop} (t : TypeId) (n : Nat) (parts : Array (Nat × Operand)) (ho : o.op = .buildSlice t n parts) (ps : Array (Nat × Value)) (hp : (parts.map fun (i, x) => (i, a.eval x)) = ps)
    (v : Value) (w' : World) (hr : (Instr.buildSlice t n ps).run P w = .ok v w') (h : K (a.put o.dst v) w') : o.wp P a w K Q := by
  subst hp
  unfold Oper.wp execOp
  simp only [ho, Sem.run_bind, Sem.run_pure, Result.andThen_ok, hr]
  exact h
theorem wpList_build_as {ops : Array Oper} {rest : List Oper} {o : Oper} {a : Act} {w : World} {Q : Exit → Act → World → Prop} (hgd : o.guard = none) (t : TypeId) (parts : Array (Nat × Operand)) (ho : o.op = .build t parts) (ps : Array (Nat × Value)) (hp : (parts.map fun (i, x) => (i, a.eval x)) = ps)
    (v : Value) (hr : (Instr.build t ps).run P w = .ok v w) (h : wpList P ops Q rest (a.put o.dst v) w) : wpList P ops Q (o :: rest) a w :=
  wpList_plain hgd fun _ hK => wp_build_as t parts ho ps hp v hr (hK _ _ h)
theorem wpList_buildSlice_as {ops : Array Oper} {rest : List Oper} {o : Oper} {a : Act} {w : World} {Q : Exit → Act → World → Prop} (hgd : o.guard = none) (t : TypeId) (n : Nat) (parts : Array (Nat × Operand)) (ho : o.op = .buildSlice t n parts) (ps : Array (Nat × Value)) (hp : (parts.map fun (i, x) => (i, a.eval x)) = ps)
    (v : Value) (w' : World) (hr : (Instr.buildSlice t n ps).run P w = .ok v w') (h : wpList P ops Q rest (a.put o.dst v) w') : wpList P ops Q (o :: rest) a w :=
  wpList_plain hgd fun _ hK => wp_buildSlice_as t n parts ho ps hp v w' hr (hK _ _ h)
theorem wp_binOp_as {o : Oper} {a : Act} {w : World} {K : Act → World → Prop} {Q : Exit → Act → World → Prop} (op : BinOp) (t : TypeId) (x y : Operand) (t2 : TypeId) (ho : o.op = .binOp op t x y t2)
    (v : Value) (hr : (do eqGuard op t x y (a.eval x) (a.eval y); binOp op t (a.eval x) (a.eval y)).run P w = .ok v w) (h : K (a.put o.dst v) w) : o.wp P a w K Q := by
  unfold Oper.wp execOp
  rw [ho]
  simp only [Sem.run_bind] at hr
  simp only [Sem.run_bind, Sem.run_pure, hr, Result.andThen_ok]
  exact h
theorem wp_load_addr {o : Oper} {a : Act} {w : World} {K : Act → World → Prop} {Q : Exit → Act → World → Prop} (ty : TypeId) (x : Operand) (ho : o.op = .load ty x)
    (ad : Addr) (v : Value) (hx : a.eval x = .pointer (some ad)) (hl : (loadVar ty ad).run P w = .ok v w) (h : K (a.put o.dst v) w) : o.wp P a w K Q := by
  unfold Oper.wp execOp
  simp only [ho, hx, Instr.loadAt, Instr.sureAddr, Sem.run_bind, Sem.run_pure, Result.andThen_ok, hl]
  exact h
end
theorem setRow_alloc (w : World) (old cells : Array Value) (t : TypeId) : (w.alloc (.cells old t)).setRow w.heap.size cells = w.alloc (.cells cells t) := by
  unfold World.setRow World.alloc
  simp only [World.mk.injEq, true_and, and_true]
  refine Array.ext_getElem? fun i => ?_
  rw [Array.getElem?_modify, Array.getElem?_push, Array.getElem?_push]
  by_cases h : w.heap.size = i
  · subst h; simp
  · rw [if_neg h, if_neg (fun e => h e.symm), if_neg (fun e => h e.symm)]
end Go.Proofs.YtdlbfjoemabfpaaGreatDoor
namespace Go.Proofs.YtdlbfjoemabfpaaGreatDoor
open Go.RowKit Go.Sort
set_option linter.unusedVariables false
set_option linter.unusedSimpArgs false
set_option maxRecDepth 100000
def exOpen : List Value := [.int .i64 0, .int .i64 1099511627777, .string ⟨#[]⟩, .slice none 0 0, .slice none 0 0, .slice none 0 0, .int .i64 0]
def exOne (T : Nat) (sg : Bool) : List Value := [.string (⟨#[114, 49]⟩ : ByteArray), .string (⟨#[97, 99, 109, 101, 47, 110, 101, 119, 115, 47, 42, 42]⟩ : ByteArray), .slice (some ⟨T, 0, none⟩) 1 1, .int .i64 10, .int .i64 0, .int .i64 0, .int .i64 0, .slice none 0 0, .int .i64 0, .int .i64 1099511627777, .string ⟨#[]⟩, .slice none 0 0, .slice none 0 0, .slice none 0 0, .int .i64 0, .bool sg, .int .i64 0, .string ⟨#[]⟩]
def exTwo (sg : Bool) : List Value := [.string (⟨#[114, 50]⟩ : ByteArray), .string (⟨#[97, 99, 109, 101, 47, 42, 42]⟩ : ByteArray), .slice none 0 0, .int .i64 100, .int .i64 50, .int .i64 1000, .int .i64 5, .slice none 0 0, .int .i64 0, .int .i64 1099511627777, .string ⟨#[]⟩, .slice none 0 0, .slice none 0 0, .slice none 0 0, .int .i64 0, .bool sg, .int .i64 0, .string ⟨#[]⟩]
def ruleZ : Array Value := #[.string ⟨#[]⟩, .string ⟨#[]⟩, .slice none 0 0, .int .i64 0, .int .i64 0, .int .i64 0, .int .i64 0, .slice none 0 0, .int .i64 0, .int .i64 0, .string ⟨#[]⟩, .slice none 0 0, .slice none 0 0, .slice none 0 0, .int .i64 0, .bool false, .int .i64 0, .string ⟨#[]⟩]
theorem run_bs (T : Nat) (w : World) : (Instr.buildSlice 22 2 #[(0, .agg (exOne T false).toArray), (1, .agg (exTwo false).toArray)]).run Tryz.prog w = .ok (.slice (some ⟨w.heap.size, 0, none⟩) 2 2) (w.alloc (.cells (exOne T false ++ exTwo false).toArray 33)) := by kernel_rfl
theorem run_b1 (T : Nat) (w : World) : (Instr.build 33 #[(0, .string (⟨#[114, 49]⟩ : ByteArray)), (1, .string (⟨#[97, 99, 109, 101, 47, 110, 101, 119, 115, 47, 42, 42]⟩ : ByteArray)), (2, .slice (some ⟨T, 0, none⟩) 1 1), (3, .int .i64 10), (8, .agg exOpen.toArray)]).run Tryz.prog w = .ok (.agg (exOne T false).toArray) w := by kernel_rfl
theorem run_b2 (w : World) : (Instr.build 33 #[(0, .string (⟨#[114, 50]⟩ : ByteArray)), (1, .string (⟨#[97, 99, 109, 101, 47, 42, 42]⟩ : ByteArray)), (3, .int .i64 100), (4, .int .i64 50), (5, .int .i64 1000), (6, .int .i64 5), (8, .agg exOpen.toArray)]).run Tryz.prog w = .ok (.agg (exTwo false).toArray) w := by kernel_rfl
theorem inf18s : (Tryz.prog.info? 33).map (·.size) = some 18 := by kernel_rfl
theorem inf3 : (Tryz.prog.info? 24).map (·.size) = some 3 := by kernel_rfl
theorem inf7 : (Tryz.prog.info? 31).map (·.size) = some 7 := by kernel_rfl
theorem two_more (W : World) (n : Nat) (hn : W.heap.size = n) (o : Obj) (Z X : Array Value) (t : TypeId) : (((W.alloc o).alloc (.cells Z t)).setRow (n + 1) X).heap[n]? = some o ∧ (((W.alloc o).alloc (.cells Z t)).setRow (n + 1) X).heap[n + 1]? = some (.cells X t (0, 0)) ∧ (((W.alloc o).alloc (.cells Z t)).setRow (n + 1) X).heap.size = n + 2 ∧ Below n W (((W.alloc o).alloc (.cells Z t)).setRow (n + 1) X) := by
  subst hn
  have e := setRow_alloc (W.alloc o) Z X t
  have e2 : (W.alloc o).heap.size = W.heap.size + 1 := by simp
  rw [e2] at e
  rw [e]
  exact ⟨heap_alloc2_old W _ _, heap_alloc2_new W _ _, by simp, ((Below.refl W.heap.size W).alloc (Nat.le_refl _) _).alloc (by simp) _⟩
theorem one_more (W : World) (n : Nat) (hn : W.heap.size = n) (Z X : Array Value) (t : TypeId) : ((W.alloc (.cells Z t)).setRow n X).heap[n]? = some (.cells X t (0, 0)) ∧ ((W.alloc (.cells Z t)).setRow n X).heap.size = n + 1 ∧ Below n W ((W.alloc (.cells Z t)).setRow n X) := by
  subst hn
  rw [setRow_alloc W Z X t]
  exact ⟨heap_alloc_new W _, by simp, (Below.refl W.heap.size W).alloc (Nat.le_refl _) _⟩
structure ExPost (w : World) (e : Ending) (w' : World) : Prop where
  out : e = .returned (.agg #[.string (⟨#[97, 99, 109, 101]⟩ : ByteArray), .int .i64 9, .slice (some ⟨w.heap.size + 5, 0, none⟩) 2 2])
  row : RowV w' (w.heap.size + 5) 33 (exOne (w.heap.size + 2) false ++ exTwo false)
  tags : RowV w' (w.heap.size + 2) 9 [.string (⟨#[104, 111, 116]⟩ : ByteArray)]
  below : Below w.heap.size w w'
set_option maxHeartbeats 4000000 in
theorem example22_any (w : World) : Calls Tryz.prog 44 #[] w (ExPost w) := by
  obtain ⟨X, hX⟩ : ∃ X, X = (exOne (w.heap.size + 2) false).toArray := ⟨_, rfl⟩
  obtain ⟨Y, hY⟩ : ∃ Y, Y = (exTwo false).toArray := ⟨_, rfl⟩
  obtain ⟨Z, hZ⟩ : ∃ Z, Z = (exOne (w.heap.size + 2) false ++ exTwo false).toArray := ⟨_, rfl⟩
  obtain ⟨C, hC⟩ : ∃ C, C = exOpen.toArray := ⟨_, rfl⟩
  have hb1 := fun W => run_b1 (w.heap.size + 2) W
  have hb2 := fun W => run_b2 W
  have hbs := fun W => run_bs (w.heap.size + 2) W
  rw [← hC, ← hX] at hb1
  rw [← hC, ← hY] at hb2
  rw [← hX, ← hY, ← hZ] at hbs
  have sX : X.size = 18 := by rw [hX]; rfl
  have sY : Y.size = 18 := by rw [hY]; rfl
  have sC : C.size = 7 := by rw [hC]; rfl
  have iX : (Tryz.prog.info? 33).map (·.size) = some X.size := by rw [sX]; exact inf18s
  have iY : (Tryz.prog.info? 33).map (·.size) = some Y.size := by rw [sY]; exact inf18s
  have iC : (Tryz.prog.info? 31).map (·.size) = some C.size := by rw [sC]; exact inf7
  have oX : X.all (·.oneCell') = true := by rw [hX, List.all_toArray]; rfl
  have oY : Y.all (·.oneCell') = true := by rw [hY, List.all_toArray]; rfl
  have hCl : (#[.int .i64 0, .int .i64 1099511627777, .string ⟨#[]⟩, .slice none 0 0, .slice none 0 0, .slice none 0 0, .int .i64 0] : Array Value) = C := hC.symm
  have HCL := Lib.hid hCl; have HX := Lib.hid sX; have HY := Lib.hid sY; have HZ := Lib.hid hZ; have HB1 := Lib.hid hb1; have HB2 := Lib.hid hb2; have HBS := Lib.hid hbs; have IX := Lib.hid iX; have IY := Lib.hid iY; have IC := Lib.hid iC; have OX := Lib.hid oX; have OY := Lib.hid oY
  clear hX hY hZ hC hCl hb1 hb2 hbs sX sY sC iX iY iC oX oY
  go_enter Tryz.func44, Tryz.ntmps44
  go_upto_region 2 with fail
  rw [HCL.out]
  clear HCL
  generalize hW : World.alloc _ _ = W
  have b0 : W.heap[w.heap.size]? = some (.cells #[.string ⟨#[]⟩, .int .i64 0, .slice none 0 0] 24 (0, 0)) := by rw [← hW]; exact heap_alloc2_old w _ _
  have b1 : W.heap[w.heap.size + 1]? = some (.cells C 31 (0, 0)) := by rw [← hW]; exact heap_alloc2_new w _ _
  have hbw : Below w.heap.size w W := by rw [← hW]; exact belB
  have hsz : W.heap.size = w.heap.size + 2 := by rw [← hW]; simp
  clear hW
  have hz33 : ∀ o t, ((W.alloc o).alloc (.cells ruleZ t)).heap[w.heap.size + 3]? = some (.cells ruleZ t (0, 0)) := fun o t => by
    have := heap_alloc2_new W o (.cells ruleZ t)
    rw [hsz] at this
    exact this
  go_upto_region 3 with (first
    | (refine wpList_load_row rfl _ _ rfl (w.heap.size + 1) rfl _ C (0, 0) _ ((heap_alloc_old W _ (by omega)).trans b1) Tryz.underlying31 rfl IC.out ?_)
    | (refine wpList_build_as rfl _ _ rfl _ (by kernel_rfl) _ (HB1.out _) ?_)
    | (refine wpList_store_row rfl _ _ _ rfl (w.heap.size + 3) X rfl rfl _ ruleZ (hz33 _ _) IX.out (HX.out ▸ rfl) OX.out ?_))
  have h2 := two_more W (w.heap.size + 2) hsz (.cells #[.string (⟨#[104, 111, 116]⟩ : ByteArray)] 9) ruleZ X 33
  unfold ruleZ at h2
  generalize hW2 : World.setRow _ _ _ = W2
  rw [hW2] at h2
  obtain ⟨q2, q3, hsz2, hb2⟩ := h2
  have q0 : W2.heap[w.heap.size]? = some (.cells #[.string ⟨#[]⟩, .int .i64 0, .slice none 0 0] 24 (0, 0)) := (hb2.block _ (by omega)).trans b0
  have q1 : W2.heap[w.heap.size + 1]? = some (.cells C 31 (0, 0)) := (hb2.block _ (by omega)).trans b1
  have hbw2 : Below w.heap.size w W2 := hbw.trans (hb2.mono (by omega))
  clear hW2 hz33 b0 b1 hb2 hbw hsz
  have hz34 : ∀ t, (W2.alloc (.cells ruleZ t)).heap[w.heap.size + 4]? = some (.cells ruleZ t (0, 0)) := fun t => by
    have := heap_alloc_new W2 (.cells ruleZ t)
    rw [hsz2] at this
    exact this
  go_upto_region 4 with (first
    | (refine wpList_load_row rfl _ _ rfl (w.heap.size + 1) rfl _ C (0, 0) _ q1 Tryz.underlying31 rfl IC.out ?_)
    | (refine wpList_build_as rfl _ _ rfl _ (by kernel_rfl) _ (HB2.out _) ?_)
    | (refine wpList_store_row rfl _ _ _ rfl (w.heap.size + 4) Y rfl rfl _ ruleZ (hz34 _) IY.out (HY.out ▸ rfl) OY.out ?_))
  have h3 := one_more W2 (w.heap.size + 4) (by omega) ruleZ Y 33
  unfold ruleZ at h3
  generalize hW3 : World.setRow _ _ _ = W3
  rw [hW3] at h3
  obtain ⟨p4, hsz3, hb3⟩ := h3
  have p0 := (hb3.block _ (by omega)).trans q0
  have p2 := (hb3.block _ (by omega)).trans q2
  have p3 := (hb3.block _ (by omega)).trans q3
  have hbw3 : Below w.heap.size w W3 := hbw2.trans (hb3.mono (by omega))
  clear hW3 hz34 q0 q1 q2 q3 hb3 hbw2 hsz2
  go_wp2_with (first
    | (refine wpList_load_row rfl _ _ rfl (w.heap.size + 3) rfl _ X (0, 0) _ p3 Tryz.underlying33 rfl IX.out ?_)
    | (refine wpList_load_row rfl _ _ rfl (w.heap.size + 4) rfl _ Y (0, 0) _ p4 Tryz.underlying33 rfl IY.out ?_)
    | (refine wpList_buildSlice_as rfl _ _ _ rfl _ (by kernel_rfl) _ _ (HBS.out _) ?_)
    | (refine wpList_store_row rfl _ _ _ rfl w.heap.size #[.string (⟨#[97, 99, 109, 101]⟩ : ByteArray), .int .i64 9, .slice (some ⟨w.heap.size + 4 + 1, 0, none⟩) 2 2] rfl rfl _ #[.string ⟨#[]⟩, .int .i64 0, .slice none 0 0] ((heap_alloc_old W3 _ (by omega)).trans p0) inf3 rfl (by simp [Value.oneCell']) ?_))
  generalize hW4 : World.setRow _ _ _ = W4
  have a5 : W4.heap[w.heap.size + 5]? = some (.cells Z 33 (0, 0)) := by
    rw [← hW4, setRow_other]
    rotate_left
    · omega
    have := heap_alloc_new W3 (.cells Z 33)
    rw [hsz3] at this
    exact this
  have a2 : W4.heap[w.heap.size + 2]? = some (.cells #[.string (⟨#[104, 111, 116]⟩ : ByteArray)] 9 (0, 0)) := by
    rw [← hW4]
    exact (setRow_other _ _ _ _ (by omega)).trans ((heap_alloc_old W3 _ (by omega)).trans p2)
  have a0 : W4.heap[w.heap.size]? = some (.cells #[.string (⟨#[97, 99, 109, 101]⟩ : ByteArray), .int .i64 9, .slice (some ⟨w.heap.size + 4 + 1, 0, none⟩) 2 2] 24 (0, 0)) := by
    rw [← hW4]
    exact setRow_heap _ _ _ _ _ _ ((heap_alloc_old W3 _ (by omega)).trans p0)
  have hbw4 : Below w.heap.size w W4 := by rw [← hW4]; exact below_setRow (hbw3.alloc (by omega) _) (Nat.le_refl _) _
  rw [HZ.out] at a5
  exact bodyPost_ret (v := .agg #[.string (⟨#[97, 99, 109, 101]⟩ : ByteArray), .int .i64 9, .slice (some ⟨w.heap.size + 4 + 1, 0, none⟩) 2 2]) (results_cell_row rfl _ _ _ _ _ _ _ rfl a0 Tryz.underlying24 rfl inf3) rfl ⟨rfl, a5, a2, hbw4⟩
end Go.Proofs.YtdlbfjoemabfpaaGreatDoor
