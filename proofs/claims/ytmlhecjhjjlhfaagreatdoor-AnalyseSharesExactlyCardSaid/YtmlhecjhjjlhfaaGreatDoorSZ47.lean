/- analyse.Clash and analyse.Shared. -/
import Derived.Test.YtmlhecjhjjlhfaaGreatDoorSZ46
import Derived.Test.YtmlhecjhjjlhfaaGreatDoorSZ39
import Derived.Test.YtmlhecjhjjlhfaaGreatDoorSZ43
import Derived.Test.YtmlhecjhjjlhfaaGreatDoorSZ25
import Derived.Test.YtmlhecjhjjlhfaaGreatDoorProg
import Derived.WalkKit
import Derived.WalkSpells
import Derived.WalkLawsBesides
import Derived.Below
import Derived.Deep.QuietTactic
import Derived.BigQuiet
import Derived.Lib.QuietBelow
import Derived.Lib.Strings
import Derived.Lib.Hide
import Derived.Deep.RegionWith
import Derived.Deep.RegionHeld3
import Derived.Lib.IndexBytes
import Derived.Test.YtmlhecjhjjlhfaaGreatDoorSZ10
import Derived.Test.YtmlhecjhjjlhfaaGreatDoorSZ32
import Derived.Test.YtmlhecjhjjlhfaaGreatDoorSZ18
namespace Go.Proofs.YtmlhecjhjjlhfaaGreatDoor
open Go.RowKit Go.Sort
set_option linter.unusedVariables false
set_option linter.unusedSimpArgs false
set_option maxRecDepth 100000
def clOk (L : List RuleM) (i k : Int) : Bool := validL L && (decide (0 ≤ i) && (decide (i < k) && decide (k < (L.length : Int))))
def ClRes (L : List RuleM) (i k : Int) (s : ByteArray) (is : Bool) (er : Int) : Prop :=
  (clOk L i k = false ∧ s = ⟨#[]⟩ ∧ is = false ∧ er = 1) ∨
  (clOk L i k = true ∧ er = 0 ∧ ∃ x y px py, L[i.toNat]? = some x ∧ L[k.toNat]? = some y ∧ compileB x.r.pat = some px ∧ compileB y.r.pat = some py ∧ is = (commonP px py).isSome ∧ (is = true → matchB x.r.pat s = true ∧ matchB y.r.pat s = true ∧ s.size ≤ 10000) ∧ (is = false → s = ⟨#[]⟩))
theorem meet_res {p q : ByteArray} {px py : Pat} (hx : compileB p = some px) (hy : compileB q = some py) : ∃ s, meetV (bothP p q) = .tuple #[.bool (commonP px py).isSome, .string s, .int .i64 0] ∧ ((commonP px py).isSome = true → matchB p s = true ∧ matchB q s = true ∧ s.size ≤ 10000) ∧ ((commonP px py).isSome = false → s = ⟨#[]⟩) := by
  rw [bothP_eq hx hy]
  cases hz : commonP px py with
  | none => exact ⟨⟨#[]⟩, rfl, (fun h => (by cases h)), fun _ => rfl⟩
  | some z =>
    obtain ⟨h1, h2⟩ := clash_yes hx hy hz
    exact ⟨exText z, rfl, fun _ => ⟨h1, h2, matched_size h1⟩, (fun h => (by cases h))⟩
set_option maxHeartbeats 8000000 in
theorem clash_any (A : Option Addr) (n c : Nat) (i k : Int) (L : List RuleM) (w : World) (hL : RulesRead w A n L) (hf : ∀ x ∈ L, RuleFits x.r) (hc : ∀ x ∈ L, RuleCaps x) (hn : n ≤ 1000) (hE : Env w) :
    Calls Tryz.prog 7 #[.slice A n c, .int .i64 i, .int .i64 k] w fun e w' => ∃ s is er, e = .returned (.tuple #[.string s, .bool is, .int .i64 er]) ∧ ClRes L i k s is er ∧ Below w.heap.size w w' := by
  have hlen := hL.len
  have cV := isValid_any A n c L w hL hf hc (by omega) hE
  have hbad : clOk L i k = false → ClRes L i k ⟨#[]⟩ false 1 := fun h => .inl ⟨h, rfl, rfl, rfl⟩
  have HBAD := Lib.hid hbad
  clear hbad
  cases hv : validL L
  · have hs := HBAD.out (by unfold clOk; rw [hv]; rfl)
    rw [hv] at cV
    have HV := Lib.hid cV; have HS := Lib.hid hs
    clear cV hs hv HBAD hL hf hc hE hlen
    go_enter Tryz.func7, Tryz.ntmps7
    go_wp2_with (go_at_call 25; refine HV.out.mono ?_; rintro e w2 ⟨rfl, hb2⟩)
    go_ret3
    exact ⟨_, _, _, rfl, HS.out, hb2⟩
  rw [hv] at cV
  have HV := Lib.hid cV
  clear cV
  by_cases hi0 : i < 0
  · have hs := HBAD.out (by unfold clOk; rw [hv, decide_eq_false (by omega : ¬ (0 : Int) ≤ i)]; rfl)
    have d0 : decide (i < 0) = true := decide_eq_true hi0
    have HS := Lib.hid hs
    clear hs hv HBAD hL hf hc hE hlen
    go_enter Tryz.func7, Tryz.ntmps7
    go_wp2_with (go_at_call 25; refine HV.out.mono ?_; rintro e w2 ⟨rfl, hb2⟩)
    go_ret3
    exact ⟨_, _, _, rfl, HS.out, hb2⟩
  have d0 : decide (i < 0) = false := decide_eq_false hi0
  by_cases hik : k ≤ i
  · have hs := HBAD.out (by unfold clOk; rw [hv, decide_eq_true (by omega : (0 : Int) ≤ i), decide_eq_false (by omega : ¬ i < k)]; rfl)
    have d1 : decide (k ≤ i) = true := decide_eq_true hik
    have HS := Lib.hid hs
    clear hs hv HBAD hL hf hc hE hlen
    go_enter Tryz.func7, Tryz.ntmps7
    go_wp2_with (go_at_call 25; refine HV.out.mono ?_; rintro e w2 ⟨rfl, hb2⟩)
    go_ret3
    exact ⟨_, _, _, rfl, HS.out, hb2⟩
  have d1 : decide (k ≤ i) = false := decide_eq_false hik
  by_cases hkn : (n : Int) ≤ k
  · have hs := HBAD.out (by unfold clOk; rw [hv, decide_eq_true (by omega : (0 : Int) ≤ i), decide_eq_true (by omega : i < k), decide_eq_false (by omega : ¬ k < (L.length : Int))]; rfl)
    have d2 : decide ((n : Int) ≤ k) = true := decide_eq_true hkn
    have HS := Lib.hid hs
    clear hs hv HBAD hL hf hc hE hlen
    go_enter Tryz.func7, Tryz.ntmps7
    go_wp2_with (go_at_call 25; refine HV.out.mono ?_; rintro e w2 ⟨rfl, hb2⟩)
    go_ret3
    exact ⟨_, _, _, rfl, HS.out, hb2⟩
  have d2 : decide ((n : Int) ≤ k) = false := decide_eq_false hkn
  have hok : clOk L i k = true := by unfold clOk; rw [hv, decide_eq_true (by omega : (0 : Int) ≤ i), decide_eq_true (by omega : i < k), decide_eq_true (by omega : k < (L.length : Int))]; rfl
  obtain ⟨a, rfl⟩ : ∃ a : Nat, i = (a : Int) := ⟨i.toNat, by omega⟩
  obtain ⟨b, rfl⟩ : ∃ b : Nat, k = (b : Int) := ⟨k.toNat, by omega⟩
  obtain ⟨x, hx⟩ : ∃ x, L[a]? = some x := ⟨_, List.getElem?_eq_getElem (by omega)⟩
  obtain ⟨y, hy⟩ : ∃ y, L[b]? = some y := ⟨_, List.getElem?_eq_getElem (by omega)⟩
  have hxm := List.mem_of_getElem? hx
  have hym := List.mem_of_getElem? hy
  obtain ⟨px, hpx⟩ := Option.isSome_iff_exists.1 (valid_at hv hxm).1.pat
  obtain ⟨py, hpy⟩ := Option.isSome_iff_exists.1 (valid_at hv hym).1.pat
  obtain ⟨s, hms, hs1, hs2⟩ := meet_res hpx hpy
  have cM := fun (W : World) (hb : Below w.heap.size w W) => addrMeet_any x.r.pat y.r.pat W (by have := (hf x hxm).pat; omega) (by have := (hf y hym).pat; omega) (hE.keep hb)
  rw [hms] at cM
  have hres : ClRes L (a : Int) (b : Int) s (commonP px py).isSome 0 := .inr ⟨hok, rfl, x, y, px, py, by rw [Int.toNat_natCast]; exact hx, by rw [Int.toNat_natCast]; exact hy, hpx, hpy, rfl, hs1, hs2⟩
  obtain ⟨_, pb, po, rfl, hcx⟩ := hL.at_ hx
  obtain ⟨_, pb', po', he, hcy⟩ := hL.at_ hy
  injection he with he
  injection he with e1 e2 _
  subst e1; subst e2
  have c1 : w.cell? ⟨pb, po + a * 18 + 1, none⟩ = some (.string x.r.pat) := hcx 1 _ rfl
  have c2 : w.cell? ⟨pb, po + b * 18 + 1, none⟩ = some (.string y.r.pat) := hcy 1 _ rfl
  generalize (commonP px py).isSome = is at *
  have HM := Lib.hid cM; have HR := Lib.hid hres; have HC1 := Lib.hid c1; have HC2 := Lib.hid c2
  clear cM hres c1 c2 hcx hcy hs1 hs2 hms hpx hpy hx hy hxm hym hok hv HBAD hL hf hc hE
  have hi1 : (0 : Int) ≤ (a : Int) := by omega
  have hi2 : (a : Int) < (n : Int) := by omega
  have hk1 : (0 : Int) ≤ (b : Int) := by omega
  have hk2 : (b : Int) < (n : Int) := by omega
  go_enter Tryz.func7, Tryz.ntmps7
  go_upto_region 3 with (go_at_call 25; refine HV.out.mono ?_; rintro e w2 ⟨rfl, hb2⟩)
  have y1 := cell_keep hb2 HC1.out
  have y2 := cell_keep hb2 HC2.out
  go_region_held3 (fun w' => w'.cell? ⟨pb, po + a * 18 + 1, none⟩ = some (.string x.r.pat) ∧ w'.cell? ⟨pb, po + b * 18 + 1, none⟩ = some (.string y.r.pat) ∧ RowKit.Below w.heap.size w w')
    (first | exact ⟨y1, y2, Below.drew hb2⟩ | (go_split_ands; exact ⟨cell_keep hb4 ‹_›, cell_keep hb4 ‹_›, bstep ‹_› hb4⟩))
    (first | (go_at_call 26; go_split_ands; refine (HM.out _ ‹_›).mono ?_; rintro e w4 ⟨rfl, hb4⟩))
  all_goals go_wp2_with fail
  all_goals go_ret3
  all_goals exact ⟨_, _, _, rfl, HR.out, by go_split_ands; assumption⟩
def ShdRes (L : List RuleM) (i k : Int) (w' : World) (s : ByteArray) (g h : SampM) (is : Bool) (er : Int) : Prop :=
  ∃ s1 is1 er1, ClRes L i k s1 is1 er1 ∧ ((is1 = false ∧ is = false ∧ er = er1) ∨ (is1 = true ∧ er = 0 ∧ ∃ x y, L[i.toNat]? = some x ∧ L[k.toNat]? = some y ∧
    ((is = false ∧ ∀ v ∈ y.L.map (·.v), GoodV (x.L.map (·.v)) (y.L.map (·.v)) v) ∨ (is = true ∧ s = s1 ∧ SampReads w' g ∧ SampReads w' h ∧ sameV (x.L.map (·.v)) g.h h.h = true ∧ sameV (y.L.map (·.v)) g.h h.h = false))))
def SplR (a b : List VaryV) (g h : SampM) (is : Bool) (W : World) : Prop := (is = false ∧ ∀ v ∈ b, GoodV a b v) ∨ (is = true ∧ SampReads W g ∧ SampReads W h ∧ sameV a g.h h.h = true ∧ sameV b g.h h.h = false)
theorem split_v {a b : List VaryV} {w : World} {e : Ending} {w' : World} (h : VSplitPost a b w e w') : ∃ g h is, e = .returned (.tuple #[.slice g.A g.h.length g.c, .slice h.A h.h.length h.c, .bool is]) ∧ SplR a b g h is w' ∧ Below w.heap.size w w' := by
  obtain ⟨hb, ⟨rfl, h⟩ | ⟨x, y, rfl, h⟩⟩ := h
  · exact ⟨⟨[], none, 0⟩, ⟨[], none, 0⟩, false, rfl, .inl ⟨rfl, h⟩, hb⟩
  · exact ⟨x, y, true, rfl, .inr ⟨rfl, h⟩, hb⟩
theorem cl_at {L : List RuleM} {i k : Int} {s : ByteArray} {er : Int} (h : ClRes L i k s true er) : er = 0 ∧ validL L = true ∧ ∃ (a b : Nat) (x y : RuleM), i = (a : Int) ∧ k = (b : Int) ∧ a < b ∧ L[a]? = some x ∧ L[b]? = some y := by
  rcases h with ⟨_, _, h, _⟩ | ⟨h0, h1, x, y, _, _, h2, h3, _⟩
  · cases h
  · unfold clOk at h0
    simp only [Bool.and_eq_true, decide_eq_true_eq] at h0
    exact ⟨h1, h0.1, i.toNat, k.toNat, x, y, by omega, by omega, by omega, h2, h3⟩
set_option maxHeartbeats 8000000 in
theorem shared_any (A : Option Addr) (n c : Nat) (i k : Int) (L : List RuleM) (w : World) (hL : RulesRead w A n L) (hf : ∀ x ∈ L, RuleFits x.r) (hc : ∀ x ∈ L, RuleCaps x) (hn : n ≤ 1000) (hE : Env w) :
    Calls Tryz.prog 8 #[.slice A n c, .int .i64 i, .int .i64 k] w fun e w' => ∃ s g h is er, e = .returned (.tuple #[.string s, .slice g.A g.h.length g.c, .slice h.A h.h.length h.c, .bool is, .int .i64 er]) ∧ ShdRes L i k w' s g h is er ∧ s.size ≤ 10000 ∧ Below w.heap.size w w' := by
  have cC := clash_any A n c i k L w hL hf hc hn hE
  have HL := Lib.hid hL; have HF := Lib.hid hf
  have HC := Lib.hid cC
  clear cC hL hf hc hE
  go_enter Tryz.func8, Tryz.ntmps8
  go_upto_if 25 with (go_at_call 7; refine HC.out.mono ?_; rintro e w2 ⟨s, is, er, rfl, hcl, hb2⟩; have HCL := Lib.hid hcl; clear hcl)
  cases is
  · go_wp2_with fail
    exact bodyPost_ret (v := .tuple #[.string ⟨#[]⟩, .slice none 0 0, .slice none 0 0, .bool false, .int .i64 er]) (by simp [results, Tryz.results8, go_sem]) rfl ⟨⟨#[]⟩, ⟨[], none, 0⟩, ⟨[], none, 0⟩, false, er, rfl, ⟨s, false, er, HCL.out, .inl ⟨rfl, rfl, rfl⟩⟩, by decide, hb2⟩
  · obtain ⟨rfl, hv, a, b, x, y, rfl, rfl, hab, hx, hy⟩ := cl_at HCL.out
    have hsz : s.size ≤ 10000 := by
      rcases HCL.out with ⟨_, _, h, _⟩ | ⟨_, _, _, _, _, _, _, _, _, _, _, h, _⟩
      · cases h
      · exact (h rfl).2.2
    have hxm := List.mem_of_getElem? hx
    have hym := List.mem_of_getElem? hy
    have hlen := HL.out.len
    have hbn : b < n := by have := (List.getElem?_eq_some_iff.1 hy).1; omega
    have cS := fun (W : World) (hb : Below w.heap.size w W) => vsplit_any x.V x.r.vary.length x.cv x.L y.V y.r.vary.length y.cv y.L W (((HL.out.each x hxm).keep hb).varys) (((HL.out.each y hym).keep hb).varys) (fits_at (HL.out.each x hxm) (HF.out x hxm)) (fits_at (HL.out.each y hym) (HF.out y hym)) (HF.out x hxm).nv (HF.out y hym).nv (valid_at hv hxm).2
    obtain ⟨_, pb, po, rfl, hcx⟩ := HL.out.at_ hx
    obtain ⟨_, pb', po', he, hcy⟩ := HL.out.at_ hy
    injection he with he
    injection he with e1 e2 _
    subst e1; subst e2
    have c1 : w.cell? ⟨pb, po + a * 18 + 7, none⟩ = some (.slice x.V x.r.vary.length x.cv) := hcx 7 _ rfl
    have c2 : w.cell? ⟨pb, po + b * 18 + 7, none⟩ = some (.slice y.V y.r.vary.length y.cv) := hcy 7 _ rfl
    have hx2 : L[((a : Nat) : Int).toNat]? = some x := by rw [Int.toNat_natCast]; exact hx
    have hy2 : L[((b : Nat) : Int).toNat]? = some y := by rw [Int.toNat_natCast]; exact hy
    have HS := Lib.hid cS; have HC1 := Lib.hid c1; have HC2 := Lib.hid c2; have HX := Lib.hid hx2; have HY := Lib.hid hy2
    clear cS c1 c2 hcx hcy hx hy hx2 hy2 hxm hym hv HL HF
    have hi1 : (0 : Int) ≤ (a : Int) := by omega
    have hi2 : (a : Int) < (n : Int) := by omega
    have hk1 : (0 : Int) ≤ (b : Int) := by omega
    have hk2 : (b : Int) < (n : Int) := by omega
    go_upto_region 4 with fail
    have y1 := cell_keep hb2 HC1.out
    have y2 := cell_keep hb2 HC2.out
    go_region_held3 (fun w' => w'.cell? ⟨pb, po + a * 18 + 7, none⟩ = some (.slice x.V x.r.vary.length x.cv) ∧ w'.cell? ⟨pb, po + b * 18 + 7, none⟩ = some (.slice y.V y.r.vary.length y.cv) ∧ RowKit.Below w.heap.size w w')
      (first | exact ⟨y1, y2, Below.drew hb2⟩ | (go_split_ands; exact ⟨cell_keep hb4 ‹_›, cell_keep hb4 ‹_›, bstep ‹_› hb4⟩))
      (first | (go_at_call 27; go_split_ands; refine (HS.out _ ‹_›).mono ?_; intro e w4 h3; obtain ⟨g, h, is, rfl, hv3, hb4⟩ := split_v h3; clear h3; have HG := Lib.hid hv3; clear hv3))
    all_goals
      cases is
      · go_wp2_with fail
        exact bodyPost_ret (v := .tuple #[.string ⟨#[]⟩, .slice none 0 0, .slice none 0 0, .bool false, .int .i64 0]) (by simp [results, Tryz.results8, go_sem]) rfl ⟨⟨#[]⟩, ⟨[], none, 0⟩, ⟨[], none, 0⟩, false, 0, rfl, ⟨s, true, 0, HCL.out, .inr ⟨rfl, rfl, x, y, HX.out, HY.out, .inl ⟨rfl, (HG.out.resolve_right (fun h => (by cases h.1))).2⟩⟩⟩, by decide, by go_split_ands; assumption⟩
      · go_wp2_with fail
        exact bodyPost_ret (v := .tuple #[.string s, .slice g.A g.h.length g.c, .slice h.A h.h.length h.c, .bool true, .int .i64 0]) (by simp [results, Tryz.results8, go_sem]) rfl ⟨s, g, h, true, 0, rfl, ⟨s, true, 0, HCL.out, .inr ⟨rfl, rfl, x, y, HX.out, HY.out, .inr ⟨rfl, rfl, (HG.out.resolve_left (fun h => (by cases h.1))).2⟩⟩⟩, hsz, by go_split_ands; assumption⟩
end Go.Proofs.YtmlhecjhjjlhfaaGreatDoor
namespace Go.Proofs.YtmlhecjhjjlhfaaGreatDoor
open Go.RowKit Go.Sort
set_option linter.unusedVariables false
set_option linter.unusedSimpArgs false
set_option maxRecDepth 100000
theorem run_bs24 (T U : Nat) (w : World) : (Instr.buildSlice 22 3 #[(0, .agg (row24 (⟨#[111, 110, 101]⟩ : ByteArray) (⟨#[97, 99, 109, 101, 47, 42, 42]⟩ : ByteArray) (some ⟨T, 0, none⟩) 1 1 ⟨#[]⟩).toArray), (1, .agg (row24 (⟨#[116, 119, 111]⟩ : ByteArray) (⟨#[97, 99, 109, 101, 47, 97]⟩ : ByteArray) (some ⟨U, 0, none⟩) 2 2 ⟨#[]⟩).toArray), (2, .agg (row24 (⟨#[116, 104, 114, 101, 101]⟩ : ByteArray) (⟨#[97, 99, 109, 101, 47, 97]⟩ : ByteArray) none 0 0 (⟨#[97, 99, 109, 101, 47, 98]⟩ : ByteArray)).toArray)]).run Tryz.prog w = .ok (.slice (some ⟨w.heap.size, 0, none⟩) 3 3) (w.alloc (.cells ((rL (some ⟨T, 0, none⟩) (some ⟨U, 0, none⟩)).flatMap RuleM.cells).toArray 38)) := by kernel_rfl
theorem rules24 {W : World} {gl T U : Nat} (hl : W.heap[gl]? = some (.cells ((rL (some ⟨T, 0, none⟩) (some ⟨U, 0, none⟩)).flatMap RuleM.cells).toArray 38 (0, 0))) (hT : W.heap[T]? = some (.cells #[.string (⟨#[104, 111, 116]⟩ : ByteArray)] 9 (0, 0))) (hU : W.heap[U]? = some (.cells #[.string (⟨#[104, 111, 116]⟩ : ByteArray), .string (⟨#[110, 101, 119]⟩ : ByteArray)] 9 (0, 0))) : RulesRead W (some ⟨gl, 0, none⟩) 3 (rL (some ⟨T, 0, none⟩) (some ⟨U, 0, none⟩)) := by
  have rd : ∀ (g : Nat) (vs : List Value) (t : TypeId) (n : Nat) (size : Nat), W.heap[g]? = some (.cells vs.toArray t (0, 0)) → vs.length = n * size → Reads W size (some ⟨g, 0, none⟩) n vs := fun g vs t n size h hn => ⟨hn, fun _ => ⟨g, 0, rfl, fun j u hu => by
    have hb : Blk W g t vs.toArray (0, 0) := h
    rw [Nat.zero_add, hb.cell]
    simpa using hu⟩⟩
  have hz : ∀ (s : ByteArray) (g : Option Addr), Reads W 1 g 0 ([] : List Value) := fun s g => ⟨rfl, fun h => absurd h (by decide)⟩
  have hc : ∀ al, CondReads W (mkC al) ⟨none, 0, none, 0, none, 0⟩ := fun al => ⟨Reads.nil_ _ _ _, Reads.nil_ _ _ _, Reads.nil_ _ _ _⟩
  refine ⟨rfl, rd gl _ _ 3 18 hl rfl, fun x hx => ?_⟩
  unfold rL at hx
  rcases List.mem_cons.1 hx with rfl | hx
  · exact ⟨rd T [.string (⟨#[104, 111, 116]⟩ : ByteArray)] _ 1 1 hT rfl, Reads.nil_ _ _ _, rfl, fun y hy => (by cases hy), hc _⟩
  rcases List.mem_cons.1 hx with rfl | hx
  · exact ⟨rd U [.string (⟨#[104, 111, 116]⟩ : ByteArray), .string (⟨#[110, 101, 119]⟩ : ByteArray)] _ 2 1 hU rfl, Reads.nil_ _ _ _, rfl, fun y hy => (by cases hy), hc _⟩
  rcases List.mem_cons.1 hx with rfl | hx
  · exact ⟨Reads.nil_ _ _ _, Reads.nil_ _ _ _, rfl, fun y hy => (by cases hy), hc _⟩
  · cases hx
structure SaS (w : World) (gl T U gz : Nat) (a : AskV) (W : World) : Prop where
  l : RulesRead W (some ⟨gl, 0, none⟩) 3 (rL (some ⟨T, 0, none⟩) (some ⟨U, 0, none⟩))
  z : Box1 W gz 49 #[.string a.addr, .string a.client, .string a.country, .int .i64 a.site, .int .i64 a.lo, .int .i64 a.hi]
  b : Below w.heap.size w W
theorem SaS.keep {w W W' : World} {gl T U gz : Nat} {a : AskV} (h : SaS w gl T U gz a W) (hb : Below W.heap.size W W') : SaS w gl T U gz a W' := ⟨h.l.keep hb, h.z.keep hb, bstep h.b hb⟩
end Go.Proofs.YtmlhecjhjjlhfaaGreatDoor
namespace Go.Proofs.YtmlhecjhjjlhfaaGreatDoor
open Go.RowKit Go.Sort
set_option linter.unusedVariables false
set_option linter.unusedSimpArgs false
set_option maxRecDepth 100000
theorem ask1_load {W : World} {g : Nat} {X : Array Value} (h : Box1 W g 49 X) (hs : X.size = 6) : (loadVar 49 ⟨g, 0, none⟩).run Tryz.prog W = .ok (.agg X) W :=
  run_loadVar_row (P := Tryz.prog) W g _ 49 X _ _ h Tryz.underlying49 rfl (by rw [hs]; kernel_rfl)
set_option maxHeartbeats 8000000 in
theorem san24_any (w : World) (hE : Env w) (hT : Tab w) : Calls Tryz.prog 6 #[] w (Ret w (.bool true)) := by
  have hg1 := fun W (hb : Below w.heap.size w W) => gapE1 W (hE.keep hb) (hT.keep hb)
  have hg2 := fun W (hb : Below w.heap.size w W) => gapE2 W (hE.keep hb) (hT.keep hb)
  have hg3 := fun W (hb : Below w.heap.size w W) => gapE3 W (hE.keep hb) (hT.keep hb)
  have r1 := fun T W => rule24_any (⟨#[111, 110, 101]⟩ : ByteArray) (⟨#[97, 99, 109, 101, 47, 42, 42]⟩ : ByteArray) (some ⟨T, 0, none⟩) 1 1 ⟨#[]⟩ W
  have r2 := fun U W => rule24_any (⟨#[116, 119, 111]⟩ : ByteArray) (⟨#[97, 99, 109, 101, 47, 97]⟩ : ByteArray) (some ⟨U, 0, none⟩) 2 2 ⟨#[]⟩ W
  have r3 := fun W => rule24_any (⟨#[116, 104, 114, 101, 101]⟩ : ByteArray) (⟨#[97, 99, 109, 101, 47, 97]⟩ : ByteArray) none 0 0 (⟨#[97, 99, 109, 101, 47, 98]⟩ : ByteArray) W
  have HG1 := Lib.hid hg1; have HG2 := Lib.hid hg2; have HG3 := Lib.hid hg3; have R1 := Lib.hid r1; have R2 := Lib.hid r2; have R3 := Lib.hid r3; have HE := Lib.hid hE; have HT := Lib.hid hT
  clear hg1 hg2 hg3 r1 r2 r3 hE hT
  go_enter Tryz.func6, Tryz.ntmps6
  go_upto_region 2 with (go_at_call 12; refine (HG1.out w (Below.refl _ _)).mono ?_; rintro e w1 ⟨s1, rfl, hb1⟩)
  go_upto_region 3 with (go_at_call 12; refine (HG2.out w1 hb1).mono ?_; rintro e w2 ⟨rfl, hb2⟩)
  have hbw2 := bstep hb1 hb2
  go_upto_region 4 with (go_at_call 12; refine (HG3.out w2 hbw2).mono ?_; rintro e w3 ⟨s3, rfl, hm3, hz3, hb3⟩)
  have hbw3 := bstep hbw2 hb3
  obtain ⟨hm31, hm32, hm33⟩ := hm3
  have HM1 := Lib.hid hm31; have HM2 := Lib.hid hm32; have HM3 := Lib.hid hm33
  clear hm31 hm32 hm33 hb1 hb2 hb3 hbw2 HG1 HG2 HG3
  go_wp2_with fail
  refine (R1.out _ _).mono ?_
  rintro e wA ⟨rfl, hbA⟩
  generalize hXA : List.toArray (row24 _ _ _ _ _ _) = XA
  go_wp2_with fail
  refine (R2.out _ _).mono ?_
  rintro e wB ⟨rfl, hbB⟩
  generalize hXB : List.toArray (row24 _ _ _ _ _ _) = XB
  go_wp2_with fail
  refine (R3.out _).mono ?_
  rintro e wC ⟨rfl, hbC⟩
  generalize hXC : List.toArray (row24 _ _ _ _ _ _) = XC
  have hbs := fun W => run_bs24 w3.heap.size wA.heap.size W
  rw [hXA, hXB, hXC] at hbs
  generalize hZ : ((rL (some ⟨w3.heap.size, 0, none⟩) (some ⟨wA.heap.size, 0, none⟩)).flatMap RuleM.cells).toArray = Z at hbs
  have HBS := Lib.hid hbs; have HZ := Lib.hid hZ; have HXA := Lib.hid hXA
  have sA := hbA.size
  have sB := hbB.size
  have sC := hbC.size
  rw [World.size_alloc] at sA sB
  have bT : wC.heap[w3.heap.size]? = some (.cells #[.string (⟨#[104, 111, 116]⟩ : ByteArray)] 9 (0, 0)) := (hbC.block _ (by omega)).trans ((hbB.block _ (by rw [World.size_alloc]; omega)).trans ((heap_alloc_old wA _ (by omega)).trans ((hbA.block _ (by rw [World.size_alloc]; omega)).trans (heap_alloc_new w3 _))))
  have bU : wC.heap[wA.heap.size]? = some (.cells #[.string (⟨#[104, 111, 116]⟩ : ByteArray), .string (⟨#[110, 101, 119]⟩ : ByteArray)] 9 (0, 0)) := (hbC.block _ (by omega)).trans ((hbB.block _ (by rw [World.size_alloc]; omega)).trans (heap_alloc_new wA _))
  have hbwC : Below w.heap.size w wC := bstep (bstep (hbw3.trans (((Below.refl _ _).alloc (Nat.le_refl _) _ |>.trans (hbA.mono (by rw [World.size_alloc]; omega))).mono (by have := hbw3.size; omega))) (((Below.refl _ _).alloc (Nat.le_refl _) _).trans (hbB.mono (by rw [World.size_alloc]; omega)))) hbC
  clear hbs hZ hXA hXB hXC R1 R2 R3 hbA hbB hbC
  go_upto_region 5 with (refine wpList_buildSlice_as rfl _ _ _ rfl _ (by kernel_rfl) _ _ (HBS.out _) ?_)
  generalize hw4 : World.alloc _ _ = w4
  obtain ⟨gl, hgl⟩ : ∃ gl, gl = wC.heap.size := ⟨_, rfl⟩
  have hal4 : Below wC.heap.size wC w4 := by rw [← hw4]; exact (Below.refl _ _).alloc (Nat.le_refl _) _
  have bl : w4.heap[gl]? = some (.cells ((rL (some ⟨w3.heap.size, 0, none⟩) (some ⟨wA.heap.size, 0, none⟩)).flatMap RuleM.cells).toArray 38 (0, 0)) := by rw [← hw4, HZ.out, hgl]; exact heap_alloc_new wC _
  have hLR := rules24 bl ((hal4.block _ (by omega)).trans bT) ((hal4.block _ (by omega)).trans bU)
  have hbw4 := bstep hbwC hal4
  rw [← hgl]
  obtain ⟨T, hT⟩ : ∃ T, T = w3.heap.size := ⟨_, rfl⟩
  obtain ⟨U, hU⟩ : ∃ U, U = wA.heap.size := ⟨_, rfl⟩
  rw [← hT, ← hU] at hLR
  have HLR := Lib.hid hLR; have HBW4 := Lib.hid hbw4; have HBW3 := Lib.hid hbw3
  clear hLR bl hal4 bT bU hw4 hgl hT hU HXA HZ HBS hbwC sA sB sC
  have he4 := HE.out.keep hbw4
  have ht4 := HT.out.keep hbw4
  have HE4 := Lib.hid he4; have HT4 := Lib.hid ht4
  clear he4 ht4 hbw3 hbw4
  go_wp2_with fail
  refine (shE1 w4 HLR.out HE4.out HT4.out).mono ?_
  rintro e w5 ⟨s5, rfl, hb5⟩
  go_wp2_with fail
  refine (shE2 w5 (HLR.out.keep hb5) (HE4.out.keep hb5) (HT4.out.keep hb5)).mono ?_
  rintro e w6 ⟨rfl, hb6⟩
  have hb46 := bstep hb5 hb6
  go_wp2_with fail
  refine (deE2 w6 (HLR.out.keep hb46) (HE4.out.keep hb46) (HT4.out.keep hb46)).mono ?_
  rintro e w7 ⟨⟨a0, a1, a2, a3, a4, a5⟩, rfl, hb7⟩
  dsimp only [AskV.val]
  have hb47 := bstep hb46 hb7
  go_wp2_with fail
  have hb48 : Below w4.heap.size w4 (w7.alloc (.cells #[.string a0, .string a1, .string a2, .int .i64 a3, .int .i64 a4, .int .i64 a5] 49)) := balloc hb47 _
  refine (deE0 _ (HLR.out.keep hb48) (HE4.out.keep hb48) (HT4.out.keep hb48)).mono ?_
  rintro e w8 ⟨⟨c0, c1, c2, c3, c4, c5⟩, rfl, ⟨hho, hfi⟩, hb8⟩
  dsimp only [AskV.val]
  have hb49 := bstep hb48 hb8
  have HHO := Lib.hid hho; have HFI := Lib.hid hfi
  clear hho hfi hb5 hb6 hb7 hb8 hb46 hb47 hb48
  have hw9 : Box1 (w8.alloc (.cells #[.string c0, .string c1, .string c2, .int .i64 c3, .int .i64 c4, .int .i64 c5] 49)) w8.heap.size 49 #[.string c0, .string c1, .string c2, .int .i64 c3, .int .i64 c4, .int .i64 c5] := heap_alloc_new w8 _
  have hbz := balloc hb49 (.cells #[.string c0, .string c1, .string c2, .int .i64 c3, .int .i64 c4, .int .i64 c5] 49)
  obtain ⟨gz, hgz⟩ : ∃ gz, gz = w8.heap.size := ⟨_, rfl⟩
  rw [← hgz] at hw9
  go_upto_region 9 with fail
  rw [← hgz]
  generalize World.alloc w8 _ = w9 at *
  have hm1 := fun W (hb : Below w4.heap.size w4 W) => (show Calls Tryz.prog 9 #[.string (⟨#[97, 99, 109, 101, 47, 42]⟩ : ByteArray), .string s3] W (Ret W (.bool true)) from HM1.out ▸ match_any (⟨#[97, 99, 109, 101, 47, 42]⟩ : ByteArray) s3 W (by decide) (by omega) (HE4.out.keep hb))
  have hm2 := fun W (hb : Below w4.heap.size w4 W) => (show Calls Tryz.prog 9 #[.string (⟨#[97, 99, 109, 101, 47, 42, 46, 99, 115, 115]⟩ : ByteArray), .string s3] W (Ret W (.bool false)) from HM2.out ▸ match_any (⟨#[97, 99, 109, 101, 47, 42, 46, 99, 115, 115]⟩ : ByteArray) s3 W (by decide) (by omega) (HE4.out.keep hb))
  have HN1 := Lib.hid hm1; have HN2 := Lib.hid hm2
  have hsa : SaS w4 gl T U gz ⟨c0, c1, c2, c3, c4, c5⟩ w9 := ⟨HLR.out.keep hbz, hw9, hbz⟩
  have HS := Lib.hid hsa
  have HM3' := HM3.out
  clear hm1 hm2 hsa hw9 hgz hb49 HM1 HM2
  go_wp2_with fail
  refine (HN1.out w9 HS.out.b).mono ?_
  rintro e wx ⟨rfl, hbx⟩
  have HS2 := Lib.hid (HS.out.keep hbx)
  clear HS hbx
  go_wp2_with fail
  refine (HN2.out wx HS2.out.b).mono ?_
  rintro e wy ⟨rfl, hby⟩
  have HS3 := Lib.hid (HS2.out.keep hby)
  clear HS2 hby
  rw [show ((⟨#[97, 99, 109, 101, 47, 97]⟩ : ByteArray) : ByteArray).toList = [97, 99, 109, 101, 47, 97] from Lib.toList_data _] at HM3'
  have hm3 := Lib.hid HM3'
  clear HM3 HM3'
  go_upto_region 11 with fail
  rw [hm3.out]
  simp only [Bool.not_false]
  have hld : ∀ W, SaS w4 gl T U gz ⟨c0, c1, c2, c3, c4, c5⟩ W → (loadVar 38 ⟨gl, 0, none⟩).run Tryz.prog W = .ok (rA (some ⟨T, 0, none⟩)).val W := fun W h => by
    obtain ⟨_, b, o, hbo, hcell⟩ := h.l.at_ (k := 0) (x := rA (some ⟨T, 0, none⟩)) rfl
    have hbo2 := Option.some.inj hbo
    injection hbo2 with e1 e2
    subst e1; subst e2
    exact rule_load W _ 0 _ (fun j u hu => by have := hcell j u hu; rwa [Nat.zero_mul, Nat.add_zero] at this)
  have hpe : ∀ W, SaS w4 gl T U gz ⟨c0, c1, c2, c3, c4, c5⟩ W → Calls Tryz.prog 24 #[(rA (some ⟨T, 0, none⟩)).val, AskV.val ⟨c0, c1, c2, c3, c4, c5⟩] W (Ret W (.bool true)) := fun W h => HHO.out ▸ permits_any _ _ W (h.l.at_ (k := 0) rfl).1 (rFit (some ⟨T, 0, none⟩) (some ⟨U, 0, none⟩) _ (List.Mem.head _)).c HFI.out (HE4.out.keep h.b)
  have hbx : ∀ W, SaS w4 gl T U gz ⟨c0, c1, c2, c3, c4, c5⟩ W → (loadVar 49 ⟨gz, 0, none⟩).run Tryz.prog W = .ok (AskV.val ⟨c0, c1, c2, c3, c4, c5⟩) W := fun W h => ask1_load h.z rfl
  unfold AskV.val at hpe hbx
  dsimp only at hpe hbx
  unfold RuleM.val at hld hpe
  have hbe : ∀ W, SaS w4 gl T U gz ⟨c0, c1, c2, c3, c4, c5⟩ W → Below w.heap.size w W := fun W h => bstep HBW4.out h.b
  generalize (rA (some ⟨T, 0, none⟩)).cells.toArray = XR at *
  generalize #[Value.string c0, .string c1, .string c2, .int .i64 c3, .int .i64 c4, .int .i64 c5] = XQ at *
  have hke : ∀ W W', SaS w4 gl T U gz ⟨c0, c1, c2, c3, c4, c5⟩ W → Below W.heap.size W W' → SaS w4 gl T U gz ⟨c0, c1, c2, c3, c4, c5⟩ W' := fun _ _ h hb => h.keep hb
  have h0 := HS3.out
  generalize SaS w4 gl T U gz ⟨c0, c1, c2, c3, c4, c5⟩ = SS at *
  have HL := Lib.hid hld; have HP := Lib.hid hpe; have HX := Lib.hid hbx; have HK := Lib.hid hke; have HB := Lib.hid hbe
  clear hld hpe hbx hke hbe HLR HHO HFI HN1 HN2 HS3 HBW4 HBW3 HE4 HT4 HE HT hm3 hz3
  refine wp_det 29 (by kernel_rfl) (by kernel_rfl) (by kernel_rfl) (fun i => [.bool true, .bool true, .bool true, .bool true, .bool true, .bool true, .bool true, .bool true, .bool false, .bool true, .bool true, .bool true, .string (⟨#[97, 99, 109, 101, 47, 97]⟩ : ByteArray), .bool true, .bool true, .bool true, .bool true, .bool true, .bool true, .bool false, .bool true, .bool true, .bool true, .slice (some ⟨gl, 0, none⟩) 3 3, .pointer (some ⟨gl, 0, none⟩), .agg XR, .agg XQ, .bool true, .bool true].getD i undef) SS (HK.out _ _ h0 (Below.drew (Below.refl _ _))) (fun _ _ h hb => HK.out _ _ h hb) ?_ ?_
  · simp only [putL, List.take_succ_cons, List.take_zero, List.drop_succ_cons, List.drop_zero, Act.put, List.setIfInBounds_toArray, List.set_cons_succ, List.set_cons_zero, List.getD_cons_zero, List.getD_cons_succ]
    refine ⟨fun W hS => ?_, fun W hS => ?_, fun W hS => ?_, fun W hS => ?_, fun W hS => ?_, fun W hS => ?_, fun W hS => ?_, fun W hS => ?_, fun W hS => ?_, fun W hS => ?_, fun W hS => ?_, fun W hS => ?_, fun W hS => ?_, fun W hS => ?_, fun W hS => ?_, fun W hS => ?_, fun W hS => ?_, fun W hS => ?_, fun W hS => ?_, fun W hS => ?_, fun W hS => ?_, fun W hS => ?_, fun W hS => ?_, fun W hS => ?_, fun W hS => ?_, fun W hS => ?_, fun W hS => ?_, fun W hS => ?_, fun W hS => ?_, trivial⟩
    all_goals
      go_wp2_with (first | (refine wpList_load_wanted (by kernel_rfl) 38 _ rfl ⟨gl, 0, none⟩ (.agg XR) rfl (HL.out _ hS) ?_) | (refine wpList_load_wanted (by kernel_rfl) 49 _ rfl ⟨gz, 0, none⟩ (.agg XQ) rfl (HX.out _ hS) ?_) | (go_at_call 24; refine (HP.out _ hS).mono ?_; rintro e w2 ⟨rfl, hb2⟩; replace hS := HK.out _ _ hS hb2))
      exact ⟨rfl, rfl, by first | exact Below.refl _ _ | assumption⟩
  intro wz hSz
  simp only [putL, List.take_succ_cons, List.take_zero, List.drop_succ_cons, List.drop_zero, Act.put, List.setIfInBounds_toArray, List.set_cons_succ, List.set_cons_zero, List.getD_cons_zero, List.getD_cons_succ]
  have hbE := HB.out _ hSz
  go_wp2
  go_ret
  exact ⟨rfl, hbE⟩
end Go.Proofs.YtmlhecjhjjlhfaaGreatDoor
