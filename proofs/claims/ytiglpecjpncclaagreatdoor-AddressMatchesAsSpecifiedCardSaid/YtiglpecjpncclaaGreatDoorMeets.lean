/- What 'Meet' and 'Both' return. -/
import Derived.Test.YtiglpecjpncclaaGreatDoorBoth
import Derived.Deep.RegionHeld3
import Derived.Test.YtiglpecjpncclaaGreatDoorProg
import Derived.WalkKit
import Derived.WalkSpells
import Derived.WalkLawsBesides
import Derived.Below
import Derived.Deep.QuietTactic
import Derived.BigQuiet
import Derived.Lib.QuietBelow
import Derived.Lib.Strings
import Derived.Lib.Hide
import Derived.Deep.RegionWith
import Derived.Deep.RegionHeld3
import Derived.Lib.IndexBytes
namespace Go.Proofs.YtiglpecjpncclaaGreatDoor
open Go.RowKit Go.Sort
set_option linter.unusedVariables false
set_option linter.unusedSimpArgs false
set_option maxRecDepth 100000
theorem bothPost_bad {r : Option (Option Pat)} {w w' : World} {e : Ending} (h : BothPost r w e w') (hr : r = none ∨ r = some none) : Below w.heap.size w w' ∧ ∃ (k : Nat) (t : ByteArray) (A : Option Addr) (n c : Nat) (b : Bool), e = .returned (.tuple #[.agg #[.int .i64 k, .string t, .slice A n c, .bool b], .bool false, .int .i64 (if r.isNone then 1 else 0)]) := by
  rcases hr with rfl | rfl
  · obtain ⟨hb, k, t, A, n, c, b, rfl⟩ := h; exact ⟨hb, k, t, A, n, c, b, rfl⟩
  · obtain ⟨hb, k, t, A, n, c, b, rfl⟩ := h; exact ⟨hb, k, t, A, n, c, b, rfl⟩
/-- What 'Both' returns: a string, whether there is one, an error. -/
def bothV (r : Option (Option Pat)) : Value := match r with
  | none => .tuple #[.string ⟨#[]⟩, .bool false, .int .i64 1]
  | some none => .tuple #[.string ⟨#[]⟩, .bool false, .int .i64 0]
  | some (some z) => .tuple #[.string (patS z), .bool true, .int .i64 0]
/-- What 'Meet' returns. -/
def meetV (r : Option (Option Pat)) : Value := match r with
  | none => .tuple #[.bool false, .string ⟨#[]⟩, .int .i64 1]
  | some none => .tuple #[.bool false, .string ⟨#[]⟩, .int .i64 0]
  | some (some z) => .tuple #[.bool true, .string (joinS (withP z.cust.kind z.cust.text ⟨#[97]⟩ :: wordsL z.parts)), .int .i64 0]
theorem withP_le {k : Nat} {t b : ByteArray} (ht : t.size ≤ 100000) (hb : b.size ≤ 1) : (withP k t b).size ≤ 200000 := by have := withP_size k t b; omega
theorem wordsL_le {ps : List Part} (h : PartsOk ps) : ∀ x ∈ wordsL ps, x.size ≤ 200000 := by
  intro x hx
  obtain ⟨p, hp, rfl⟩ := List.mem_map.1 hx
  exact withP_le (h p hp).2 (Nat.le_refl _)
set_option maxHeartbeats 2000000 in
theorem addrBoth_any (p q : ByteArray) (w : World) (hp : p.size ≤ 100000) (hq : q.size ≤ 100000) (hE : Env w) : Calls Tryz.prog 31 #[.string p, .string q] w (Ret w (bothV (bothP p q))) := by
  have c0 := both_any p q w hp hq hE
  have hg := fun z => bothP_good (z := z) hp hq
  generalize bothP p q = r at *
  clear hE
  by_cases hr : r = none ∨ r = some none
  · have H0 := Lib.hid (c0.mono fun e w' h => bothPost_bad h hr)
    clear c0 hg
    have hv : bothV r = .tuple #[.string ⟨#[]⟩, .bool false, .int .i64 (if r.isNone then 1 else 0)] := by rcases hr with rfl | rfl <;> rfl
    rw [hv]
    clear hv hr
    generalize (if r.isNone = true then (1 : Int) else 0) = er at *
    go_enter Tryz.func31, Tryz.ntmps31
    go_wp2_with (go_at_call 76; refine H0.out.mono ?_; rintro e w1 ⟨hb1, k1, t1, A1, n1, d1, b1, rfl⟩)
    go_ret3
    exact ⟨rfl, by (repeat (first | exact Below.refl _ _ | assumption | refine Below.drew ?_ | refine balloc ?_ _ | refine bdrewN ?_ _ | refine Below.setCell ?_ (by first | (simp; done) | (simp; omega)) _ | refine bstep ?_ (by assumption)))⟩
  · obtain ⟨z, rfl⟩ : ∃ z, r = some (some z) := by
      rcases r with _ | _ | z
      · exact absurd (.inl rfl) hr
      · exact absurd (.inr rfl) hr
      · exact ⟨z, rfl⟩
    have g := hg z rfl
    have H0 := Lib.hid c0
    clear c0 hg hr
    show Calls Tryz.prog 31 #[.string p, .string q] w (Ret w (.tuple #[.string (patS z), .bool true, .int .i64 0]))
    have hn := g.num
    have cS := fun A c W h => patString_any z.cust.kind z.cust.text A z.parts.length c z.tail z.parts W h g.parts (by omega) g.kind g.text
    obtain ⟨⟨zk, zt⟩, zs, zl⟩ := z
    dsimp only at cS
    generalize patS ⟨⟨zk, zt⟩, zs, zl⟩ = V at *
    have HS := Lib.hid cS
    clear cS g hn
    unfold BothPost at H0
    dsimp only at H0
    go_enter Tryz.func31, Tryz.ntmps31
    go_wp2_with (first | (go_at_call 76; refine H0.out.mono ?_; rintro e w1 ⟨hb1, A, c, rfl, hR1⟩) | (go_at_call 77; refine (HS.out _ _ _ (hR1.keep (balloc (Below.refl _ _) _))).mono ?_; rintro e w2 ⟨rfl, hb2⟩))
    go_ret3
    exact ⟨rfl, by (repeat (first | exact Below.refl _ _ | assumption | refine Below.drew ?_ | refine balloc ?_ _ | refine bdrewN ?_ _ | refine Below.setCell ?_ (by first | (simp; done) | (simp; omega)) _ | refine bstep ?_ (by assumption)))⟩
set_option maxHeartbeats 4000000 in
theorem addrMeet_any (p q : ByteArray) (w : World) (hp : p.size ≤ 100000) (hq : q.size ≤ 100000) (hE : Env w) : Calls Tryz.prog 30 #[.string p, .string q] w (Ret w (meetV (bothP p q))) := by
  have c0 := both_any p q w hp hq hE
  have hg := fun z => bothP_good (z := z) hp hq
  generalize bothP p q = r at *
  clear hE
  by_cases hr : r = none ∨ r = some none
  · have H0 := Lib.hid (c0.mono fun e w' h => bothPost_bad h hr)
    clear c0 hg
    have hv : meetV r = .tuple #[.bool false, .string ⟨#[]⟩, .int .i64 (if r.isNone then 1 else 0)] := by rcases hr with rfl | rfl <;> rfl
    rw [hv]
    clear hv hr
    generalize (if r.isNone = true then (1 : Int) else 0) = er at *
    go_enter Tryz.func30, Tryz.ntmps30
    go_wp2_with (go_at_call 76; refine H0.out.mono ?_; rintro e w1 ⟨hb1, k1, t1, A1, n1, d1, b1, rfl⟩)
    go_ret3
    exact ⟨rfl, by (repeat (first | exact Below.refl _ _ | assumption | refine Below.drew ?_ | refine balloc ?_ _ | refine bdrewN ?_ _ | refine Below.setCell ?_ (by first | (simp; done) | (simp; omega)) _ | refine bstep ?_ (by assumption)))⟩
  · obtain ⟨z, rfl⟩ : ∃ z, r = some (some z) := by
      rcases r with _ | _ | z
      · exact absurd (.inl rfl) hr
      · exact absurd (.inr rfl) hr
      · exact ⟨z, rfl⟩
    have g := hg z rfl
    have H0 := Lib.hid c0
    clear c0 hg hr
    show Calls Tryz.prog 30 #[.string p, .string q] w (Ret w (.tuple #[.bool true, .string (joinS (withP z.cust.kind z.cust.text ⟨#[97]⟩ :: wordsL z.parts)), .int .i64 0]))
    have hn := g.num
    have cW := fun W => with_any z.cust.kind z.cust.text ⟨#[97]⟩ W (by decide) (by have := g.text; omega) g.kind
    have cL := fun A c W h => words_any z.cust.kind z.cust.text A z.parts.length c z.tail z.parts W h g.parts (by omega)
    have h1 := withP_le (k := z.cust.kind) (b := ⟨#[97]⟩) g.text (Nat.le_refl _)
    have h2 := wordsL_le g.parts
    have hl : (wordsL z.parts).length = z.parts.length := by simp [wordsL]
    have cX := fun A c W h => example_any (withP z.cust.kind z.cust.text ⟨#[97]⟩) A z.parts.length c (wordsL z.parts) W h (by omega) h1 h2
    obtain ⟨⟨zk, zt⟩, zs, zl⟩ := z
    dsimp only at cW cL cX ⊢
    generalize withP zk zt ⟨#[97]⟩ = c0 at *
    generalize wordsL zs = ws at *
    generalize joinS (c0 :: ws) = V at *
    have HW := Lib.hid cW
    have HL := Lib.hid cL
    have HX := Lib.hid cX
    clear cW cL cX g hn h1 h2 hl
    unfold BothPost at H0
    dsimp only at H0
    generalize zs.length = zn at *
    go_enter Tryz.func30, Tryz.ntmps30
    go_wp2_with (go_at_call 76; refine H0.out.mono ?_; rintro e w1 ⟨hb1, A, c, rfl, hR1⟩)
    have f1 : (w1.alloc (.cells #[.int .i64 zk, .string zt, .slice A zn c, .bool zl] 100)).cell? ⟨w1.heap.size, 0, none⟩ = some (.int .i64 zk) := by simp [go_sem]
    have f2 : (w1.alloc (.cells #[.int .i64 zk, .string zt, .slice A zn c, .bool zl] 100)).cell? ⟨w1.heap.size, 1, none⟩ = some (.string zt) := by simp [go_sem]
    have f3 : (w1.alloc (.cells #[.int .i64 zk, .string zt, .slice A zn c, .bool zl] 100)).cell? ⟨w1.heap.size, 2, none⟩ = some (.slice A zn c) := by simp [go_sem]
    have f4 : (w1.alloc (.cells #[.int .i64 zk, .string zt, .slice A zn c, .bool zl] 100)).cell? ⟨w1.heap.size, 3, none⟩ = some (.bool zl) := by simp [go_sem]
    have f5 : Reads (w1.alloc (.cells #[.int .i64 zk, .string zt, .slice A zn c, .bool zl] 100)) 2 A zn (partCells zs) := hR1.keep (balloc (Below.refl _ _) _)
    have f6 : Below w.heap.size w (w1.alloc (.cells #[.int .i64 zk, .string zt, .slice A zn c, .bool zl] 100)) := by (repeat (first | exact Below.refl _ _ | assumption | refine Below.drew ?_ | refine balloc ?_ _ | refine bdrewN ?_ _ | refine Below.setCell ?_ (by first | (simp; done) | (simp; omega)) _ | refine bstep ?_ (by assumption)))
    go_region_held3 (fun w' => w'.cell? ⟨w1.heap.size, 0, none⟩ = some (.int .i64 zk) ∧ w'.cell? ⟨w1.heap.size, 1, none⟩ = some (.string zt) ∧ w'.cell? ⟨w1.heap.size, 2, none⟩ = some (.slice A zn c) ∧ w'.cell? ⟨w1.heap.size, 3, none⟩ = some (.bool zl) ∧ Reads w' 2 A zn (partCells zs) ∧ Below w.heap.size w w')
      (first | exact ⟨f1, f2, f3, f4, f5, Below.drew f6⟩ | (go_split_ands; exact ⟨cell_keep hb2 ‹_›, cell_keep hb2 ‹_›, cell_keep hb2 ‹_›, cell_keep hb2 ‹_›, Reads.keep ‹_› hb2, bstep ‹_› hb2⟩) | (go_split_ands; exact ⟨cell_keep hb3 ‹_›, cell_keep hb3 ‹_›, cell_keep hb3 ‹_›, cell_keep hb3 ‹_›, Reads.keep ‹_› hb3, bstep ‹_› hb3⟩) | (go_split_ands; exact ⟨cell_keep hb4 ‹_›, cell_keep hb4 ‹_›, cell_keep hb4 ‹_›, cell_keep hb4 ‹_›, Reads.keep ‹_› hb4, bstep ‹_› hb4⟩))
      (first | (go_at_call 70; refine (HW.out _).mono ?_; rintro e w2 ⟨rfl, hb2⟩) | (go_at_call 71; go_split_ands; refine (HL.out _ _ _ ‹_›).mono ?_; rintro e w3 ⟨A3, c3, rfl, hown, hb3⟩) | (go_at_call 73; refine (HX.out _ _ _ (by first | exact Reads.of_own hown | exact (Reads.of_own hown).keep hb2)).mono ?_; rintro e w4 ⟨rfl, hb4⟩))
    all_goals go_wp2
    all_goals go_ret3
    all_goals exact ⟨rfl, by go_split_ands; assumption⟩

end Go.Proofs.YtiglpecjpncclaaGreatDoor
