/- The rules of layer 24's example. -/
import Derived.Test.YtjhlpkhfdghngaaGreatDoorGZ46
import Derived.Test.YtjhlpkhfdghngaaGreatDoorGZ8
import Derived.Test.YtjhlpkhfdghngaaGreatDoorProg
import Derived.WalkKit
import Derived.WalkSpells
import Derived.WalkLawsBesides
import Derived.Below
import Derived.Deep.QuietTactic
import Derived.BigQuiet
import Derived.Lib.QuietBelow
import Derived.Lib.Strings
import Derived.Lib.Hide
import Derived.Deep.RegionWith
import Derived.Deep.RegionHeld3
import Derived.Lib.IndexBytes
import Derived.Test.YtjhlpkhfdghngaaGreatDoorGZ40
import Derived.Test.YtjhlpkhfdghngaaGreatDoorGZ35
import Derived.Test.YtjhlpkhfdghngaaGreatDoorGZ11
import Derived.Test.YtjhlpkhfdghngaaGreatDoorGZ34
import Derived.Test.YtjhlpkhfdghngaaGreatDoorGZ19
namespace Go.Proofs.YtjhlpkhfdghngaaGreatDoor
open Go.RowKit Go.Sort
set_option linter.unusedVariables false
set_option linter.unusedSimpArgs false
set_option maxRecDepth 100000
def ruleZ24 : Array Value := #[.string ⟨#[]⟩, .string ⟨#[]⟩, .slice none 0 0, .int .i64 0, .int .i64 0, .int .i64 0, .int .i64 0, .slice none 0 0, .int .i64 0, .int .i64 0, .string ⟨#[]⟩, .slice none 0 0, .slice none 0 0, .slice none 0 0, .int .i64 0, .bool false, .int .i64 0, .string ⟨#[]⟩]
def cond24 (al : ByteArray) : List Value := [.int .i64 0, .int .i64 1099511627777, .string al, .slice none 0 0, .slice none 0 0, .slice none 0 0, .int .i64 0]
def row24 (nm pt : ByteArray) (T : Option Addr) (n c : Nat) (al : ByteArray) : List Value := [.string nm, .string pt, .slice T n c, .int .i64 0, .int .i64 0, .int .i64 0, .int .i64 0, .slice none 0 0, .int .i64 0, .int .i64 1099511627777, .string al, .slice none 0 0, .slice none 0 0, .slice none 0 0, .int .i64 0, .bool false, .int .i64 0, .string ⟨#[]⟩]
theorem run_c24 (al : ByteArray) (w : World) : (Instr.build 31 #[(1, .int .i64 1099511627777), (2, .string al)]).run Tryz.prog w = .ok (.agg (cond24 al).toArray) w := by kernel_rfl
theorem run_r24 (nm pt : ByteArray) (T : Option Addr) (n c : Nat) (al : ByteArray) (w : World) : (Instr.build 33 #[(0, .string nm), (1, .string pt), (2, .slice T n c), (8, .agg (cond24 al).toArray)]).run Tryz.prog w = .ok (.agg (row24 nm pt T n c al).toArray) w := by kernel_rfl
theorem inf18w : (Tryz.prog.info? 33).map (·.size) = some 18 := by kernel_rfl
set_option maxHeartbeats 4000000 in
theorem rule24_any (nm pt : ByteArray) (T : Option Addr) (n c : Nat) (al : ByteArray) (w : World) : Calls Tryz.prog 68 #[.string nm, .string pt, .slice T n c, .string al] w (Ret w (.agg (row24 nm pt T n c al).toArray)) := by
  obtain ⟨X, hX⟩ : ∃ X, X = (row24 nm pt T n c al).toArray := ⟨_, rfl⟩
  obtain ⟨C, hC⟩ : ∃ C, C = (cond24 al).toArray := ⟨_, rfl⟩
  have h1 := fun W => run_c24 al W
  have h2 := fun W => run_r24 nm pt T n c al W
  rw [← hC] at h1 h2
  rw [← hX] at h2 ⊢
  have sX : X.size = 18 := by rw [hX]; rfl
  have iX : (Tryz.prog.info? 33).map (·.size) = some X.size := by rw [sX]; exact inf18w
  have oX : X.all (·.oneCell') = true := by rw [hX, List.all_toArray]; rfl
  have H1 := Lib.hid h1; have H2 := Lib.hid h2; have SX := Lib.hid sX; have IX := Lib.hid iX; have OX := Lib.hid oX
  clear h1 h2 sX iX oX hX hC
  have hz : (w.alloc (.cells ruleZ24 33)).heap[w.heap.size]? = some (.cells ruleZ24 33 (0, 0)) := heap_alloc_new w _
  go_enter Tryz.func68, Tryz.ntmps68
  go_wp2_with (first
    | (refine wpList_build_as rfl _ _ rfl _ (by kernel_rfl) _ (H1.out _) ?_)
    | (refine wpList_build_as rfl _ _ rfl _ (by kernel_rfl) _ (H2.out _) ?_)
    | (refine wpList_store_row rfl _ _ _ rfl w.heap.size X rfl rfl _ ruleZ24 hz IX.out (SX.out ▸ rfl) OX.out ?_))
  have a0 : ((w.alloc (.cells ruleZ24 33)).setRow w.heap.size X).heap[w.heap.size]? = some (.cells X 33 (0, 0)) := setRow_heap _ _ _ _ _ _ hz
  have hb : Below w.heap.size w ((w.alloc (.cells ruleZ24 33)).setRow w.heap.size X) := below_setRow (balloc (Below.refl _ _) _) (Nat.le_refl _) _
  exact bodyPost_ret (v := .agg X) (results_cell_row rfl _ _ _ _ _ _ _ rfl a0 Tryz.underlying33 rfl IX.out) rfl ⟨rfl, hb⟩
end Go.Proofs.YtjhlpkhfdghngaaGreatDoor
namespace Go.Proofs.YtjhlpkhfdghngaaGreatDoor
open Go.RowKit Go.Sort
set_option linter.unusedVariables false
set_option linter.unusedSimpArgs false
set_option maxRecDepth 100000
theorem gapE {p : ByteArray} {bs : List ByteArray} (W : World) (hp : p.size ≤ 300) (hn : bs.length ≤ 10) (hs : ∀ b ∈ bs, b.size ≤ 300) (hok : gapOk p bs = true) (hE : Env W) (hT : Tab W) :
    Calls Tryz.prog 20 #[.string p, .slice (some ⟨W.heap.size, 0, none⟩) bs.length bs.length] (W.alloc (.cells (bs.map Value.string).toArray 9)) fun e w' => ∃ s is, e = .returned (.tuple #[.string s, .bool is, .int .i64 0]) ∧ GapPost p bs s is ∧ s.size ≤ 4096 ∧ Below W.heap.size W w' := by
  have hal : Below W.heap.size W (W.alloc (.cells (bs.map Value.string).toArray 9)) := balloc (Below.refl _ _) _
  have hR := reads_new W 9 (bs.map Value.string) bs.length (by simp)
  refine (gap_any p (some ⟨W.heap.size, 0, none⟩) bs.length bs.length bs _ (by omega) hR (.inl hn) hs (hE.keep hal) (hT.keep hal)).mono ?_
  rintro e w' ⟨s, is, er, rfl, hr, hb⟩
  rcases hr with ⟨h, _⟩ | ⟨_, rfl, hg, hz⟩
  · rw [hok] at h; cases h
  · exact ⟨s, is, rfl, hg, hz, bstep hal hb⟩
theorem gapE1 (W : World) (hE : Env W) (hT : Tab W) : Calls Tryz.prog 20 #[.string (⟨#[97, 99, 109, 101, 47, 42, 42]⟩ : ByteArray), .slice (some ⟨W.heap.size, 0, none⟩) 3 3] (W.alloc (.cells #[.string (⟨#[97, 99, 109, 101]⟩ : ByteArray), .string (⟨#[97, 99, 109, 101, 47, 42]⟩ : ByteArray), .string (⟨#[97, 99, 109, 101, 47, 42, 47, 42, 42]⟩ : ByteArray)] 9)) fun e w' => ∃ s, e = .returned (.tuple #[.string s, .bool false, .int .i64 0]) ∧ Below W.heap.size W w' :=
  (gapE (p := (⟨#[97, 99, 109, 101, 47, 42, 42]⟩ : ByteArray)) (bs := [(⟨#[97, 99, 109, 101]⟩ : ByteArray), (⟨#[97, 99, 109, 101, 47, 42]⟩ : ByteArray), (⟨#[97, 99, 109, 101, 47, 42, 47, 42, 42]⟩ : ByteArray)]) W (by decide) (by decide) (by decide) (by decide +kernel) hE hT).mono fun e w' ⟨s, is, he, hg, _, hb⟩ => ⟨s, by rw [he, g1 hg], hb⟩
theorem gapE2 (W : World) (hE : Env W) (hT : Tab W) : Calls Tryz.prog 20 #[.string (⟨#[97, 99, 109, 101, 47, 42, 42]⟩ : ByteArray), .slice (some ⟨W.heap.size, 0, none⟩) 2 2] (W.alloc (.cells #[.string (⟨#[97, 99, 109, 101, 47, 42]⟩ : ByteArray), .string (⟨#[97, 99, 109, 101, 47, 42, 47, 42, 42]⟩ : ByteArray)] 9)) fun e w' => e = .returned (.tuple #[.string (⟨#[97, 99, 109, 101]⟩ : ByteArray), .bool true, .int .i64 0]) ∧ Below W.heap.size W w' :=
  (gapE (p := (⟨#[97, 99, 109, 101, 47, 42, 42]⟩ : ByteArray)) (bs := [(⟨#[97, 99, 109, 101, 47, 42]⟩ : ByteArray), (⟨#[97, 99, 109, 101, 47, 42, 47, 42, 42]⟩ : ByteArray)]) W (by decide) (by decide) (by decide) (by decide +kernel) hE hT).mono fun e w' ⟨s, is, he, hg, _, hb⟩ => ⟨by rw [he, (g2 hg).1, (g2 hg).2], hb⟩
theorem gapE3 (W : World) (hE : Env W) (hT : Tab W) : Calls Tryz.prog 20 #[.string (⟨#[97, 99, 109, 101, 47, 42]⟩ : ByteArray), .slice (some ⟨W.heap.size, 0, none⟩) 2 2] (W.alloc (.cells #[.string (⟨#[97, 99, 109, 101, 47, 42, 46, 99, 115, 115]⟩ : ByteArray), .string (⟨#[97, 99, 109, 101, 47, 97]⟩ : ByteArray)] 9)) fun e w' => ∃ s, e = .returned (.tuple #[.string s, .bool true, .int .i64 0]) ∧ (matchB (⟨#[97, 99, 109, 101, 47, 42]⟩ : ByteArray) s = true ∧ matchB (⟨#[97, 99, 109, 101, 47, 42, 46, 99, 115, 115]⟩ : ByteArray) s = false ∧ (s.toList == ((⟨#[97, 99, 109, 101, 47, 97]⟩ : ByteArray) : ByteArray).toList) = false) ∧ s.size ≤ 4096 ∧ Below W.heap.size W w' :=
  (gapE (p := (⟨#[97, 99, 109, 101, 47, 42]⟩ : ByteArray)) (bs := [(⟨#[97, 99, 109, 101, 47, 42, 46, 99, 115, 115]⟩ : ByteArray), (⟨#[97, 99, 109, 101, 47, 97]⟩ : ByteArray)]) W (by decide) (by decide) (by decide) (by decide +kernel) hE hT).mono fun e w' ⟨s, is, he, hg, hz, hb⟩ => ⟨s, by rw [he, (g3 hg).1], (g3 hg).2, hz, hb⟩
theorem rFit (T U : Option Addr) : ∀ x ∈ rL T U, RuleFits x.r := by
  have hA : fewR (rA none).r = true := by decide +kernel
  have hB : fewR (rB none).r = true := by decide +kernel
  have hC : fewR rC.r = true := by decide +kernel
  intro x hx
  unfold rL at hx
  rcases List.mem_cons.1 hx with rfl | hx
  · exact fewR_fits hA
  rcases List.mem_cons.1 hx with rfl | hx
  · exact fewR_fits hB
  rcases List.mem_cons.1 hx with rfl | hx
  · exact fewR_fits hC
  · cases hx
theorem rCap (T U : Option Addr) : ∀ x ∈ rL T U, RuleCaps x := by
  intro x hx
  unfold rL at hx
  rcases List.mem_cons.1 hx with rfl | hx
  · exact ⟨Nat.le_refl _, fun y hy => (by cases hy), Nat.le_refl _⟩
  rcases List.mem_cons.1 hx with rfl | hx
  · exact ⟨Nat.le_refl _, fun y hy => (by cases hy), Nat.le_refl _⟩
  rcases List.mem_cons.1 hx with rfl | hx
  · exact ⟨Nat.le_refl _, fun y hy => (by cases hy), Nat.le_refl _⟩
  · cases hx
theorem okL (T U : Option Addr) (i : Int) (h0 : 0 ≤ i) (h1 : i < 3) : shOk (rL T U) i = true := by
  unfold shOk
  rw [vL, decide_eq_true h0, decide_eq_true (show i < ((rL T U).length : Int) from h1)]
  rfl
theorem shE1 {A T U : Option Addr} (W : World) (hL : RulesRead W A 3 (rL T U)) (hE : Env W) (hT : Tab W) : Calls Tryz.prog 22 #[.slice A 3 3, .int .i64 1] W fun e w' => ∃ s, e = .returned (.tuple #[.string s, .bool true, .int .i64 0]) ∧ Below W.heap.size W w' := by
  refine (shadowed_any A 3 3 1 (rL T U) W hL (rFit T U) (rCap T U) (Nat.le_refl _) (by decide) hE hT).mono ?_
  rintro e w' ⟨s, is, er, rfl, hr, hb⟩
  rcases hr with ⟨h, _⟩ | ⟨_, rfl, x, hx, hr⟩
  · rw [okL T U 1 (by decide) (by decide)] at h; cases h
  · have hx2 : x = rB U := (Option.some.inj (show (rL T U)[1]? = some x from hx)).symm
    subst hx2
    rcases hr with ⟨h, _⟩ | ⟨_, g, rfl, hg, _⟩
    · exact absurd tB h
    · have h2 : GapPost (⟨#[97, 99, 109, 101, 47, 97]⟩ : ByteArray) [(⟨#[97, 99, 109, 101, 47, 42, 42]⟩ : ByteArray)] s g := by
        have h3 := hg
        rw [show befK (rL T U) (rB U).r.tags (Int.toNat 1) = [(⟨#[97, 99, 109, 101, 47, 42, 42]⟩ : ByteArray)] from bB T U] at h3
        exact h3
      rw [gs1 h2]
      exact ⟨s, rfl, hb⟩
theorem shE2 {A T U : Option Addr} (W : World) (hL : RulesRead W A 3 (rL T U)) (hE : Env W) (hT : Tab W) : Calls Tryz.prog 22 #[.slice A 3 3, .int .i64 2] W (Ret W (.tuple #[.string (⟨#[97, 99, 109, 101, 47, 97]⟩ : ByteArray), .bool false, .int .i64 0])) := by
  refine (shadowed_any A 3 3 2 (rL T U) W hL (rFit T U) (rCap T U) (Nat.le_refl _) (by decide) hE hT).mono ?_
  rintro e w' ⟨s, is, er, rfl, hr, hb⟩
  rcases hr with ⟨h, _⟩ | ⟨_, rfl, x, hx, hr⟩
  · rw [okL T U 2 (by decide) (by decide)] at h; cases h
  · have hx2 : x = rC := (Option.some.inj (show (rL T U)[2]? = some x from hx)).symm
    subst hx2
    rcases hr with ⟨h, _⟩ | ⟨_, g, rfl, hg, _⟩
    · exact absurd t0 h
    · have h2 : GapPost (⟨#[97, 99, 109, 101, 47, 97]⟩ : ByteArray) [] s g := by
        have h3 := hg
        rw [show befK (rL T U) rC.r.tags (Int.toNat 2) = [] from bC T U] at h3
        exact h3
      rw [(gs2 h2).1, (gs2 h2).2]
      exact ⟨rfl, hb⟩
theorem pmC : pmeet rC.r.pat rC.r.allow.pat = none := by decide +kernel
theorem pmAa : pmeet (⟨#[97, 99, 109, 101, 47, 42, 42]⟩ : ByteArray) ⟨#[]⟩ = some (⟨#[97, 99, 109, 101, 47, 42, 42]⟩ : ByteArray) := by decide +kernel
theorem deE2 {A T U : Option Addr} (W : World) (hL : RulesRead W A 3 (rL T U)) (hE : Env W) (hT : Tab W) : Calls Tryz.prog 27 #[.slice A 3 3, .int .i64 2] W fun e w' => ∃ a, e = .returned (.tuple #[AskV.val a, .bool true, .int .i64 0]) ∧ Below W.heap.size W w' := by
  refine (dead_good A 3 3 2 (rL T U) rC W hL (rFit T U) (rCap T U) (Nat.le_refl _) (by decide) hE hT (vL T U) rfl).mono ?_
  rintro e w' ⟨a, is, rfl, hr, hb⟩
  rcases hr with ⟨rfl, _⟩ | ⟨rfl, _, _, m, s, hm, _⟩
  · exact ⟨a, rfl, hb⟩
  · rw [pmC] at hm; cases hm
theorem deE0 {A T U : Option Addr} (W : World) (hL : RulesRead W A 3 (rL T U)) (hE : Env W) (hT : Tab W) : Calls Tryz.prog 27 #[.slice A 3 3, .int .i64 0] W fun e w' => ∃ a, e = .returned (.tuple #[AskV.val a, .bool false, .int .i64 0]) ∧ (holdsC (rA T).r.allow a = true ∧ AskFits a) ∧ Below W.heap.size W w' := by
  refine (dead_good A 3 3 0 (rL T U) (rA T) W hL (rFit T U) (rCap T U) (Nat.le_refl _) (by decide) hE hT (vL T U) rfl).mono ?_
  rintro e w' ⟨a, is, rfl, hr, hb⟩
  have hbe : befK (rL T U) (rA T).r.tags 0 = [] := rfl
  have hpm : pmeet (rA T).r.pat (rA T).r.allow.pat = some (⟨#[97, 99, 109, 101, 47, 42, 42]⟩ : ByteArray) := pmAa
  rcases hr with ⟨_, _, h | h | ⟨_, h⟩ | ⟨_, _, m, s, hm, hg⟩⟩ | ⟨rfl, _, _, m, s, hm, hg, hz, rfl⟩
  · exact absurd (show (tagsR [(⟨#[104, 111, 116]⟩ : ByteArray)]).2 = 0 by rw [tA]) h
  · exact absurd h (show ¬ ((1099511627777 : Int) ≤ 0) by decide)
  · rw [hpm] at h; cases h
  · exfalso
    rw [hpm] at hm
    have em := Option.some.inj hm
    subst em
    rw [hbe] at hg
    have := gd0 hg
    cases this
  · rw [hpm] at hm
    have em := Option.some.inj hm
    subst em
    have hv : validC (rA T).r.allow = true := (rule_ok (show validR (rA T).r = true from vA)).allow
    have hlv := live_ask (l := (rL T U).map ruleP) (i := 0) (r := ruleP (rA T)) (c := (rA T).r.allow) (m := (⟨#[97, 99, 109, 101, 47, 42, 42]⟩ : ByteArray)) (s := s) (T := (⟨#[104, 111, 116]⟩ : ByteArray)) rfl (by show (compileB (⟨#[97, 99, 109, 101, 47, 42, 42]⟩ : ByteArray)).isSome = true; rw [cTa]; rfl) ((valid_iff _).1 hv) (by show (0 : Int) < 1099511627777; decide) tA hpm (by rw [befK_eq]; exact hg)
    exact ⟨_, rfl, ⟨hlv.1, ⟨by show s.size ≤ 100000; omega, (show (⟨#[97]⟩ : ByteArray).size ≤ 100000 by decide), (show (⟨#[97, 97]⟩ : ByteArray).size ≤ 100000 by decide)⟩⟩, hb⟩
end Go.Proofs.YtjhlpkhfdghngaaGreatDoor
namespace Go.Proofs.YtjhlpkhfdghngaaGreatDoor
open Go.RowKit Go.Sort
set_option linter.unusedVariables false
set_option linter.unusedSimpArgs false
set_option maxRecDepth 100000
theorem run_bs24 (T U : Nat) (w : World) : (Instr.buildSlice 22 3 #[(0, .agg (row24 (⟨#[111, 110, 101]⟩ : ByteArray) (⟨#[97, 99, 109, 101, 47, 42, 42]⟩ : ByteArray) (some ⟨T, 0, none⟩) 1 1 ⟨#[]⟩).toArray), (1, .agg (row24 (⟨#[116, 119, 111]⟩ : ByteArray) (⟨#[97, 99, 109, 101, 47, 97]⟩ : ByteArray) (some ⟨U, 0, none⟩) 2 2 ⟨#[]⟩).toArray), (2, .agg (row24 (⟨#[116, 104, 114, 101, 101]⟩ : ByteArray) (⟨#[97, 99, 109, 101, 47, 97]⟩ : ByteArray) none 0 0 (⟨#[97, 99, 109, 101, 47, 98]⟩ : ByteArray)).toArray)]).run Tryz.prog w = .ok (.slice (some ⟨w.heap.size, 0, none⟩) 3 3) (w.alloc (.cells ((rL (some ⟨T, 0, none⟩) (some ⟨U, 0, none⟩)).flatMap RuleM.cells).toArray 33)) := by kernel_rfl
theorem rules24 {W : World} {gl T U : Nat} (hl : W.heap[gl]? = some (.cells ((rL (some ⟨T, 0, none⟩) (some ⟨U, 0, none⟩)).flatMap RuleM.cells).toArray 33 (0, 0))) (hT : W.heap[T]? = some (.cells #[.string (⟨#[104, 111, 116]⟩ : ByteArray)] 9 (0, 0))) (hU : W.heap[U]? = some (.cells #[.string (⟨#[104, 111, 116]⟩ : ByteArray), .string (⟨#[110, 101, 119]⟩ : ByteArray)] 9 (0, 0))) : RulesRead W (some ⟨gl, 0, none⟩) 3 (rL (some ⟨T, 0, none⟩) (some ⟨U, 0, none⟩)) := by
  have rd : ∀ (g : Nat) (vs : List Value) (t : TypeId) (n : Nat) (size : Nat), W.heap[g]? = some (.cells vs.toArray t (0, 0)) → vs.length = n * size → Reads W size (some ⟨g, 0, none⟩) n vs := fun g vs t n size h hn => ⟨hn, fun _ => ⟨g, 0, rfl, fun j u hu => by
    have hb : Blk W g t vs.toArray (0, 0) := h
    rw [Nat.zero_add, hb.cell]
    simpa using hu⟩⟩
  have hz : ∀ (s : ByteArray) (g : Option Addr), Reads W 1 g 0 ([] : List Value) := fun s g => ⟨rfl, fun h => absurd h (by decide)⟩
  have hc : ∀ al, CondReads W (mkC al) ⟨none, 0, none, 0, none, 0⟩ := fun al => ⟨Reads.nil_ _ _ _, Reads.nil_ _ _ _, Reads.nil_ _ _ _⟩
  refine ⟨rfl, rd gl _ _ 3 18 hl rfl, fun x hx => ?_⟩
  unfold rL at hx
  rcases List.mem_cons.1 hx with rfl | hx
  · exact ⟨rd T [.string (⟨#[104, 111, 116]⟩ : ByteArray)] _ 1 1 hT rfl, Reads.nil_ _ _ _, rfl, fun y hy => (by cases hy), hc _⟩
  rcases List.mem_cons.1 hx with rfl | hx
  · exact ⟨rd U [.string (⟨#[104, 111, 116]⟩ : ByteArray), .string (⟨#[110, 101, 119]⟩ : ByteArray)] _ 2 1 hU rfl, Reads.nil_ _ _ _, rfl, fun y hy => (by cases hy), hc _⟩
  rcases List.mem_cons.1 hx with rfl | hx
  · exact ⟨Reads.nil_ _ _ _, Reads.nil_ _ _ _, rfl, fun y hy => (by cases hy), hc _⟩
  · cases hx
structure SaS (w : World) (gl T U gz : Nat) (a : AskV) (W : World) : Prop where
  l : RulesRead W (some ⟨gl, 0, none⟩) 3 (rL (some ⟨T, 0, none⟩) (some ⟨U, 0, none⟩))
  z : Box1 W gz 55 #[.string a.addr, .string a.client, .string a.country, .int .i64 a.site, .int .i64 a.lo, .int .i64 a.hi]
  b : Below w.heap.size w W
theorem SaS.keep {w W W' : World} {gl T U gz : Nat} {a : AskV} (h : SaS w gl T U gz a W) (hb : Below W.heap.size W W') : SaS w gl T U gz a W' := ⟨h.l.keep hb, h.z.keep hb, bstep h.b hb⟩
end Go.Proofs.YtjhlpkhfdghngaaGreatDoor
