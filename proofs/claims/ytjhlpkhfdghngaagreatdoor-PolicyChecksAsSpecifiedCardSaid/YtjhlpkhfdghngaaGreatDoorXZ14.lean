/- The parts of a rule, by the reference. -/
import Derived.Test.YtjhlpkhfdghngaaGreatDoorXZ8
import Derived.Test.YtjhlpkhfdghngaaGreatDoorXZ13
import Derived.Test.YtjhlpkhfdghngaaGreatDoorXZ9
import Derived.Test.YtjhlpkhfdghngaaGreatDoorProg
import Derived.WalkKit
import Derived.WalkSpells
import Derived.WalkLawsBesides
import Derived.Below
import Derived.Deep.QuietTactic
import Derived.BigQuiet
import Derived.Lib.QuietBelow
import Derived.Lib.Strings
import Derived.Lib.Hide
import Derived.Deep.RegionWith
import Derived.Deep.RegionHeld3
import Derived.Lib.IndexBytes
import Derived.Test.YtjhlpkhfdghngaaGreatDoorXZ11
import Derived.Test.YtjhlpkhfdghngaaGreatDoorXZ12
import Derived.Test.YtjhlpkhfdghngaaGreatDoorXZ1
import Derived.Deep.Upon
import Derived.OwnWalk
namespace Go.Proofs.YtjhlpkhfdghngaaGreatDoor
open Go.RowKit Go.Sort
set_option linter.unusedVariables false
set_option linter.unusedSimpArgs false
set_option maxRecDepth 100000
theorem infWri : (Tryz.prog.info? 193).map (·.size) = some 2 := by kernel_rfl
structure PaS (w : World) (X TV : Array Value) (gt : Nat) (W : World) : Prop where
  x : Box1 W w.heap.size 33 X
  t : Box1 W gt 193 TV
  b : Below w.heap.size w W
  s : gt < W.heap.size
theorem PaS.keep {w W W' : World} {X TV : Array Value} {gt : Nat} (h : PaS w X TV gt W) (hb : Below W.heap.size W W') : PaS w X TV gt W' := ⟨h.x.keep hb, h.t.keep hb, bstep h.b hb, Nat.lt_of_lt_of_le h.s hb.size⟩
theorem PaS.keep2 {w W W' : World} {X TV : Array Value} {gt : Nat} (h : PaS w X TV gt W) (hg : w.heap.size < gt) (hb : Below (gt + 1) W W') : PaS w X TV gt W' :=
  ⟨(hb.block _ (by omega)).trans h.x, (hb.block _ (by omega)).trans h.t, h.b.trans (hb.mono (by omega)), Nat.lt_of_lt_of_le h.s hb.size⟩
structure PaR (w : World) (X TV : Array Value) (gt : Nat) (wr W : World) : Prop where
  a : PaS w X TV gt W
  c : Below wr.heap.size wr W
theorem PaR.keep {w wr W W' : World} {X TV : Array Value} {gt : Nat} (h : PaR w X TV gt wr W) (hb : Below W.heap.size W W') : PaR w X TV gt wr W' := ⟨h.a.keep hb, bstep h.c hb⟩
def OwnS (base n : Nat) (l : List ByteArray) : Value → World → Prop := fun v W => ∃ b, v = .slice (some ⟨b, 0, none⟩) n n ∧ W.ownsRow base 9 1 (.slice (some ⟨b, 0, none⟩) n n) n (l.map .string)
theorem keeps_ownS (base n : Nat) (l : List ByteArray) : Keeps (OwnS base n l) := fun _ _ _ ⟨b, e, hr⟩ hb => ⟨b, e, ownsRow_keep hr hb⟩
theorem five_new (W : World) (a b c d e : Int) : Reads (W.alloc (.cells #[.int .i64 a, .int .i64 b, .int .i64 c, .int .i64 d, .int .i64 e] 3)) 1 (some ⟨W.heap.size, 0, none⟩) 5 ([a, b, c, d, e].map (.int .i64)) := reads_new W 3 ([a, b, c, d, e].map (.int .i64)) 5 rfl
set_option maxHeartbeats 8000000 in
theorem rParts22_any (x : RuleM) (w : World) (hR : RuleReads w x) (hok : RuleOk x.r) (hf : RuleFits x.r) : Calls Tryz.prog 66 #[x.val] w (fun e w' => ∃ A d, e = .returned (.slice A (partsR x.r).length d) ∧ w'.ownsRow w.heap.size 9 1 (.slice A (partsR x.r).length d) (partsR x.r).length ((partsR x.r).map .string) ∧ Below w.heap.size w w') := by
  obtain ⟨i0, hi0, hz0, hz1, hz2⟩ := info_parts infStr8
  have HI := Lib.hid (And.intro hi0 (And.intro hz0 (And.intro hz1 hz2)))
  clear hi0 hz0 hz1 hz2
  have hTX := fun (W : World) (hb : Below w.heap.size w W) => rText_all x.r.allow x.m W (hR.allow.keep hb) hf.c
  have hn5 : ∀ y ∈ [x.r.fresh, x.r.stale, x.r.down, x.r.neg, x.r.cost], 0 ≤ y ∧ y ≤ 9223372036854775807 := by
    have := hok.f0; have := hok.f1; have := hok.s0; have := hok.s1; have := hok.d0; have := hok.d1; have := hok.n0; have := hok.n1; have := hok.c0; have := hok.c1
    intro y hy
    simp only [List.mem_cons, List.not_mem_nil, or_false] at hy
    rcases hy with rfl | rfl | rfl | rfl | rfl <;> omega
  have hc0 : x.cells.toArray[0]? = some (.string x.r.name) := rfl
  have hc1 : x.cells.toArray[1]? = some (.string x.r.pat) := rfl
  have hc2 : x.cells.toArray[2]? = some (.slice x.T x.r.tags.length x.ct) := rfl
  have hc3 : x.cells.toArray[3]? = some (.int .i64 x.r.fresh) := rfl
  have hc4 : x.cells.toArray[4]? = some (.int .i64 x.r.stale) := rfl
  have hc5 : x.cells.toArray[5]? = some (.int .i64 x.r.down) := rfl
  have hc6 : x.cells.toArray[6]? = some (.int .i64 x.r.neg) := rfl
  have hc7 : x.cells.toArray[7]? = some (.slice x.V x.r.vary.length x.cv) := rfl
  have hc9 : x.cells.toArray[15]? = some (.bool x.r.signed) := rfl
  have hc10 : x.cells.toArray[16]? = some (.int .i64 x.r.cost) := rfl
  have hc11 : x.cells.toArray[17]? = some (.string x.r.prog) := rfl
  have hxc : ∀ j v, [Value.int .i64 x.r.allow.fr, .int .i64 x.r.allow.till, .string x.r.allow.pat, .slice x.m.A x.r.allow.cl.length x.m.ca, .slice x.m.B x.r.allow.co.length x.m.cb, .slice x.m.S x.r.allow.si.length x.m.cs, .int .i64 x.r.allow.us][j]? = some v → x.cells.toArray[8 + j]? = some v := by
    intro j v hj
    match j, hj with
    | 0, hj => exact hj
    | 1, hj => exact hj
    | 2, hj => exact hj
    | 3, hj => exact hj
    | 4, hj => exact hj
    | 5, hj => exact hj
    | 6, hj => exact hj
  unfold RuleM.val
  generalize x.cells.toArray = X at *
  obtain ⟨tx, htx⟩ : ∃ tx, tx = (textE x.r.allow).1 := ⟨_, rfl⟩
  obtain ⟨tn, htn⟩ : ∃ tn, tn = (textE x.r.allow).2 := ⟨_, rfl⟩
  rw [← htx, ← htn] at hTX
  obtain ⟨TV, hTV⟩ : ∃ TV : Array Value, TV = #[.string tx, .int .i64 tn] := ⟨_, rfl⟩
  rw [← hTV] at hTX
  have ht0 : TV[0]? = some (.string tx) := by rw [hTV]; rfl
  have hti : (Tryz.prog.info? 193).map (·.size) = some TV.size := by rw [hTV]; exact infWri
  have htz : (#[.string ⟨#[]⟩, .int .i64 0] : Array Value).size = TV.size := by rw [hTV]; rfl
  have hto : TV.all (·.oneCell') = true := by
    rw [hTV]
    show ([Value.string tx, .int .i64 tn] : List Value).toArray.all (·.oneCell') = true
    rw [List.all_toArray]
    rfl
  obtain ⟨sg, hsg⟩ : ∃ sg, sg = x.r.signed := ⟨_, rfl⟩
  rw [← hsg] at hc9
  obtain ⟨ob, hob⟩ : ∃ ob, ob = openB sg := ⟨_, rfl⟩
  have HC0 := Lib.hid hc0; have HC1 := Lib.hid hc1; have HC2 := Lib.hid hc2; have HC3 := Lib.hid hc3; have HC4 := Lib.hid hc4; have HC5 := Lib.hid hc5; have HC6 := Lib.hid hc6; have HC7 := Lib.hid hc7; have HC9 := Lib.hid hc9; have HC10 := Lib.hid hc10; have HC11 := Lib.hid hc11; have HXC := Lib.hid hxc
  have HTX := Lib.hid hTX; have HN5 := Lib.hid hn5; have HRR := Lib.hid hR; have HFI := Lib.hid hf; have HT0 := Lib.hid ht0; have HTI := Lib.hid hti; have HTZ := Lib.hid htz; have HTO := Lib.hid hto; have HTE := Lib.hid htx; have HSG := Lib.hid hsg; have HOB := Lib.hid hob
  clear hc0 hc1 hc2 hc3 hc4 hc5 hc6 hc7 hc9 hc10 hc11 hxc hTX hn5 hR hf ht0 hti htz hto htx hsg hob hTV htn hok
  go_enter Tryz.func66, Tryz.ntmps66
  go_upto_region 1 with fail
  generalize hw0 : World.alloc _ _ = w0
  have B6 : Box1 w0 w.heap.size 33 X := by rw [← hw0]; exact heap_alloc_new w _
  have hb0 : Below w.heap.size w w0 := by rw [← hw0]; exact belB
  clear hw0
  go_upto_region 2 with (first
    | (refine wpList_load_addr rfl 31 _ rfl ⟨w.heap.size, 8, none⟩ _ rfl (run_cond_at B6 HXC.out) ?_)
    | (go_at_call 128; refine (HTX.out _ hb0).mono ?_; rintro e w1 ⟨rfl, hb1⟩)
    | (refine wpList_store_row rfl 193 _ _ rfl w1.heap.size TV rfl rfl _ #[.string ⟨#[]⟩, .int .i64 0] ((heap_alloc_new w1 _).trans rfl) HTI.out HTZ.out HTO.out ?_))
  obtain ⟨gt, hgt⟩ : ∃ g, g = w1.heap.size := ⟨_, rfl⟩
  rw [← hgt]
  generalize hw2 : World.setRow _ _ _ = w2
  have hbb : Below w1.heap.size w1 w2 := by rw [← hw2, hgt]; exact below_setRow ((Below.refl _ _).alloc (Nat.le_refl _) _) (Nat.le_refl _) _
  have hP : PaS w X TV gt w2 := ⟨(B6.keep hb1).keep hbb, by rw [← hw2, hgt]; exact setRow_heap _ _ _ _ _ _ (heap_alloc_new w1 _), bstep (bstep hb0 hb1) hbb, by rw [← hw2, hgt]; simp⟩
  have hwg : w.heap.size < gt := by have h := cell_lt ((B6.keep hb1).cell HC0.out); rw [hgt]; exact h
  have HP := Lib.hid hP
  clear hw2 hbb hP B6 hb0 hb1 hgt
  clear w1 w0
  have y15 := HP.out.x.cell HC9.out
  go_upto_if 11 with fail
  go_cut [4] (fun v wx => v = .string ob ∧ PaS w X TV gt wx)
  case first =>
    have hP := HP.out
    cases sg
    · obtain rfl : ob = (⟨#[111, 112, 101, 110]⟩ : ByteArray) := HOB.out
      go_wp2_with fail
      go_meet
      exact ⟨rfl, hP⟩
    · obtain rfl : ob = (⟨#[115, 105, 103, 110, 101, 100]⟩ : ByteArray) := HOB.out
      go_wp2_with fail
      go_meet
      exact ⟨rfl, hP⟩
  case rest =>
  obtain ⟨rfl, hP2⟩ := hcut
  have HP2 := Lib.hid hP2
  clear hP2 HP y15
  clear w2
  go_upto_region 5 with fail
  refine wp_detD 29 (by kernel_rfl) (by kernel_rfl) (by kernel_rfl) (DL [IsV (.pointer (some ⟨w.heap.size, 0, none⟩)), IsV (.string x.r.name), IsV (.pointer (some ⟨w.heap.size, 1, none⟩)), IsV (.string x.r.pat), IsV (.pointer (some ⟨w.heap.size, 2, none⟩)), IsV (.slice x.T x.r.tags.length x.ct), IsV (.string (sepT 44 x.r.tags)), IsV (.pointer (some ⟨w.heap.size, 3, none⟩)), IsV (.int .i64 x.r.fresh), IsV (.pointer (some ⟨w.heap.size, 4, none⟩)), IsV (.int .i64 x.r.stale), IsV (.pointer (some ⟨w.heap.size, 5, none⟩)), IsV (.int .i64 x.r.down), IsV (.pointer (some ⟨w.heap.size, 6, none⟩)), IsV (.int .i64 x.r.neg), IsV (.pointer (some ⟨w.heap.size, 16, none⟩)), IsV (.int .i64 x.r.cost), Five [x.r.fresh, x.r.stale, x.r.down, x.r.neg, x.r.cost], IsV (.string (numT [x.r.fresh, x.r.stale, x.r.down, x.r.neg, x.r.cost])), IsV (.pointer (some ⟨gt, 0, none⟩)), IsV (.string tx), IsV (.string ob), IsV (.pointer (some ⟨w.heap.size, 17, none⟩)), IsV (.string x.r.prog), IsV (.pointer (some ⟨w.heap.size, 7, none⟩)), IsV (.slice x.V x.r.vary.length x.cv), IsV (.int .i64 (x.r.vary.length : Int)), IsV (.string (itoaB (x.r.vary.length : Int))), OwnS (gt + 1) 8 [x.r.name, x.r.pat, sepT 44 x.r.tags, numT [x.r.fresh, x.r.stale, x.r.down, x.r.neg, x.r.cost], tx, ob, x.r.prog, itoaB (x.r.vary.length : Int)]]) (DL.keep _ (by simp only [KeepAll]; repeat' (first | apply And.intro | exact keeps_is _ | exact keeps_five _ | exact keeps_strs _ _ | exact keeps_ownS _ _ _ | exact trivial))) (PaS w X TV gt) (HP2.out.keep (Below.drew (Below.refl _ _))) (fun _ _ h hb => h.keep hb) ?_ ?_
  · dsimp only [List.take_succ_cons, List.take_zero, DetD]
    refine ⟨fun vals W hS hd => ?_, fun vals W hS hd => ?_, fun vals W hS hd => ?_, fun vals W hS hd => ?_, fun vals W hS hd => ?_, fun vals W hS hd => ?_, fun vals W hS hd => ?_, fun vals W hS hd => ?_, fun vals W hS hd => ?_, fun vals W hS hd => ?_, fun vals W hS hd => ?_, fun vals W hS hd => ?_, fun vals W hS hd => ?_, fun vals W hS hd => ?_, fun vals W hS hd => ?_, fun vals W hS hd => ?_, fun vals W hS hd => ?_, fun vals W hS hd => ?_, fun vals W hS hd => ?_, fun vals W hS hd => ?_, fun vals W hS hd => ?_, fun vals W hS hd => ?_, fun vals W hS hd => ?_, fun vals W hS hd => ?_, fun vals W hS hd => ?_, fun vals W hS hd => ?_, fun vals W hS hd => ?_, fun vals W hS hd => ?_, fun vals W hS hd => ?_, trivial⟩
    · (try simp only [DepsL, DL, IsV, List.getD_cons_zero, List.getD_cons_succ, Region.binds, and_true, true_and] at hd)
      simp only [putL, List.take_succ_cons, List.take_zero, List.drop_succ_cons, List.drop_zero, Act.put, List.setIfInBounds_toArray, List.set_cons_succ, List.set_cons_zero, List.getD_cons_zero, List.getD_cons_succ]
      (try simp only [hd])
      clear hd
      go_wp2
      exact ⟨rfl, rfl, rfl, belB⟩
    · (try simp only [DepsL, DL, IsV, List.getD_cons_zero, List.getD_cons_succ, Region.binds, and_true, true_and] at hd)
      simp only [putL, List.take_succ_cons, List.take_zero, List.drop_succ_cons, List.drop_zero, Act.put, List.setIfInBounds_toArray, List.set_cons_succ, List.set_cons_zero, List.getD_cons_zero, List.getD_cons_succ]
      (try simp only [hd])
      clear hd
      have cc := hS.x.cell HC0.out
      go_wp2
      exact ⟨rfl, rfl, rfl, belB⟩
    · (try simp only [DepsL, DL, IsV, List.getD_cons_zero, List.getD_cons_succ, Region.binds, and_true, true_and] at hd)
      simp only [putL, List.take_succ_cons, List.take_zero, List.drop_succ_cons, List.drop_zero, Act.put, List.setIfInBounds_toArray, List.set_cons_succ, List.set_cons_zero, List.getD_cons_zero, List.getD_cons_succ]
      (try simp only [hd])
      clear hd
      go_wp2
      exact ⟨rfl, rfl, rfl, belB⟩
    · (try simp only [DepsL, DL, IsV, List.getD_cons_zero, List.getD_cons_succ, Region.binds, and_true, true_and] at hd)
      simp only [putL, List.take_succ_cons, List.take_zero, List.drop_succ_cons, List.drop_zero, Act.put, List.setIfInBounds_toArray, List.set_cons_succ, List.set_cons_zero, List.getD_cons_zero, List.getD_cons_succ]
      (try simp only [hd])
      clear hd
      have cc := hS.x.cell HC1.out
      go_wp2
      exact ⟨rfl, rfl, rfl, belB⟩
    · (try simp only [DepsL, DL, IsV, List.getD_cons_zero, List.getD_cons_succ, Region.binds, and_true, true_and] at hd)
      simp only [putL, List.take_succ_cons, List.take_zero, List.drop_succ_cons, List.drop_zero, Act.put, List.setIfInBounds_toArray, List.set_cons_succ, List.set_cons_zero, List.getD_cons_zero, List.getD_cons_succ]
      (try simp only [hd])
      clear hd
      go_wp2
      exact ⟨rfl, rfl, rfl, belB⟩
    · (try simp only [DepsL, DL, IsV, List.getD_cons_zero, List.getD_cons_succ, Region.binds, and_true, true_and] at hd)
      simp only [putL, List.take_succ_cons, List.take_zero, List.drop_succ_cons, List.drop_zero, Act.put, List.setIfInBounds_toArray, List.set_cons_succ, List.set_cons_zero, List.getD_cons_zero, List.getD_cons_succ]
      (try simp only [hd])
      clear hd
      have cc := hS.x.cell HC2.out
      go_wp2
      exact ⟨rfl, rfl, rfl, belB⟩
    · (try simp only [DepsL, DL, IsV, List.getD_cons_zero, List.getD_cons_succ, Region.binds, and_true, true_and] at hd)
      simp only [putL, List.take_succ_cons, List.take_zero, List.drop_succ_cons, List.drop_zero, Act.put, List.setIfInBounds_toArray, List.set_cons_succ, List.set_cons_zero, List.getD_cons_zero, List.getD_cons_succ]
      (try simp only [hd])
      clear hd
      go_wp2_with (go_at_call 129; refine (rJoined22_any 44 x.T x.r.tags.length x.ct x.r.tags W (HRR.out.tags.keep hS.b) (by have := HFI.out.nt; omega) (fun s hs => by have := HFI.out.t s hs; omega)).mono ?_; rintro e w2 ⟨rfl, hb2⟩)
      exact ⟨rfl, rfl, rfl, belB⟩
    · (try simp only [DepsL, DL, IsV, List.getD_cons_zero, List.getD_cons_succ, Region.binds, and_true, true_and] at hd)
      simp only [putL, List.take_succ_cons, List.take_zero, List.drop_succ_cons, List.drop_zero, Act.put, List.setIfInBounds_toArray, List.set_cons_succ, List.set_cons_zero, List.getD_cons_zero, List.getD_cons_succ]
      (try simp only [hd])
      clear hd
      go_wp2
      exact ⟨rfl, rfl, rfl, belB⟩
    · (try simp only [DepsL, DL, IsV, List.getD_cons_zero, List.getD_cons_succ, Region.binds, and_true, true_and] at hd)
      simp only [putL, List.take_succ_cons, List.take_zero, List.drop_succ_cons, List.drop_zero, Act.put, List.setIfInBounds_toArray, List.set_cons_succ, List.set_cons_zero, List.getD_cons_zero, List.getD_cons_succ]
      (try simp only [hd])
      clear hd
      have cc := hS.x.cell HC3.out
      go_wp2
      exact ⟨rfl, rfl, rfl, belB⟩
    · (try simp only [DepsL, DL, IsV, List.getD_cons_zero, List.getD_cons_succ, Region.binds, and_true, true_and] at hd)
      simp only [putL, List.take_succ_cons, List.take_zero, List.drop_succ_cons, List.drop_zero, Act.put, List.setIfInBounds_toArray, List.set_cons_succ, List.set_cons_zero, List.getD_cons_zero, List.getD_cons_succ]
      (try simp only [hd])
      clear hd
      go_wp2
      exact ⟨rfl, rfl, rfl, belB⟩
    · (try simp only [DepsL, DL, IsV, List.getD_cons_zero, List.getD_cons_succ, Region.binds, and_true, true_and] at hd)
      simp only [putL, List.take_succ_cons, List.take_zero, List.drop_succ_cons, List.drop_zero, Act.put, List.setIfInBounds_toArray, List.set_cons_succ, List.set_cons_zero, List.getD_cons_zero, List.getD_cons_succ]
      (try simp only [hd])
      clear hd
      have cc := hS.x.cell HC4.out
      go_wp2
      exact ⟨rfl, rfl, rfl, belB⟩
    · (try simp only [DepsL, DL, IsV, List.getD_cons_zero, List.getD_cons_succ, Region.binds, and_true, true_and] at hd)
      simp only [putL, List.take_succ_cons, List.take_zero, List.drop_succ_cons, List.drop_zero, Act.put, List.setIfInBounds_toArray, List.set_cons_succ, List.set_cons_zero, List.getD_cons_zero, List.getD_cons_succ]
      (try simp only [hd])
      clear hd
      go_wp2
      exact ⟨rfl, rfl, rfl, belB⟩
    · (try simp only [DepsL, DL, IsV, List.getD_cons_zero, List.getD_cons_succ, Region.binds, and_true, true_and] at hd)
      simp only [putL, List.take_succ_cons, List.take_zero, List.drop_succ_cons, List.drop_zero, Act.put, List.setIfInBounds_toArray, List.set_cons_succ, List.set_cons_zero, List.getD_cons_zero, List.getD_cons_succ]
      (try simp only [hd])
      clear hd
      have cc := hS.x.cell HC5.out
      go_wp2
      exact ⟨rfl, rfl, rfl, belB⟩
    · (try simp only [DepsL, DL, IsV, List.getD_cons_zero, List.getD_cons_succ, Region.binds, and_true, true_and] at hd)
      simp only [putL, List.take_succ_cons, List.take_zero, List.drop_succ_cons, List.drop_zero, Act.put, List.setIfInBounds_toArray, List.set_cons_succ, List.set_cons_zero, List.getD_cons_zero, List.getD_cons_succ]
      (try simp only [hd])
      clear hd
      go_wp2
      exact ⟨rfl, rfl, rfl, belB⟩
    · (try simp only [DepsL, DL, IsV, List.getD_cons_zero, List.getD_cons_succ, Region.binds, and_true, true_and] at hd)
      simp only [putL, List.take_succ_cons, List.take_zero, List.drop_succ_cons, List.drop_zero, Act.put, List.setIfInBounds_toArray, List.set_cons_succ, List.set_cons_zero, List.getD_cons_zero, List.getD_cons_succ]
      (try simp only [hd])
      clear hd
      have cc := hS.x.cell HC6.out
      go_wp2
      exact ⟨rfl, rfl, rfl, belB⟩
    · (try simp only [DepsL, DL, IsV, List.getD_cons_zero, List.getD_cons_succ, Region.binds, and_true, true_and] at hd)
      simp only [putL, List.take_succ_cons, List.take_zero, List.drop_succ_cons, List.drop_zero, Act.put, List.setIfInBounds_toArray, List.set_cons_succ, List.set_cons_zero, List.getD_cons_zero, List.getD_cons_succ]
      (try simp only [hd])
      clear hd
      go_wp2
      exact ⟨rfl, rfl, rfl, belB⟩
    · (try simp only [DepsL, DL, IsV, List.getD_cons_zero, List.getD_cons_succ, Region.binds, and_true, true_and] at hd)
      simp only [putL, List.take_succ_cons, List.take_zero, List.drop_succ_cons, List.drop_zero, Act.put, List.setIfInBounds_toArray, List.set_cons_succ, List.set_cons_zero, List.getD_cons_zero, List.getD_cons_succ]
      (try simp only [hd])
      clear hd
      have cc := hS.x.cell HC10.out
      go_wp2
      exact ⟨rfl, rfl, rfl, belB⟩
    · (try simp only [DepsL, DL, IsV, List.getD_cons_zero, List.getD_cons_succ, Region.binds, and_true, true_and] at hd)
      obtain ⟨h1, h2, h3, h4, h5⟩ := hd
      simp only [putL, List.take_succ_cons, List.take_zero, List.drop_succ_cons, List.drop_zero, Act.put, List.setIfInBounds_toArray, List.set_cons_succ, List.set_cons_zero, List.getD_cons_zero, List.getD_cons_succ]
      simp only [h1, h2, h3, h4, h5]
      clear h1 h2 h3 h4 h5
      go_wp2
      exact ⟨rfl, ⟨W.heap.size, rfl, five_new W _ _ _ _ _⟩, rfl, belB⟩
    · (try simp only [DepsL, DL, IsV, List.getD_cons_zero, List.getD_cons_succ, Region.binds, and_true, true_and] at hd)
      obtain ⟨⟨b5, h1, h2⟩, -⟩ := hd
      simp only [putL, List.take_succ_cons, List.take_zero, List.drop_succ_cons, List.drop_zero, Act.put, List.setIfInBounds_toArray, List.set_cons_succ, List.set_cons_zero, List.getD_cons_zero, List.getD_cons_succ]
      simp only [h1]
      clear h1
      go_wp2_with (go_at_call 130; refine (rNumbers22_any (some ⟨b5, 0, none⟩) 5 5 [x.r.fresh, x.r.stale, x.r.down, x.r.neg, x.r.cost] W h2 (by omega) HN5.out).mono ?_; rintro e w2 ⟨rfl, hb2⟩)
      exact ⟨rfl, rfl, rfl, belB⟩
    · (try simp only [DepsL, DL, IsV, List.getD_cons_zero, List.getD_cons_succ, Region.binds, and_true, true_and] at hd)
      simp only [putL, List.take_succ_cons, List.take_zero, List.drop_succ_cons, List.drop_zero, Act.put, List.setIfInBounds_toArray, List.set_cons_succ, List.set_cons_zero, List.getD_cons_zero, List.getD_cons_succ]
      (try simp only [hd])
      clear hd
      go_wp2
      exact ⟨rfl, rfl, rfl, belB⟩
    · (try simp only [DepsL, DL, IsV, List.getD_cons_zero, List.getD_cons_succ, Region.binds, and_true, true_and] at hd)
      simp only [putL, List.take_succ_cons, List.take_zero, List.drop_succ_cons, List.drop_zero, Act.put, List.setIfInBounds_toArray, List.set_cons_succ, List.set_cons_zero, List.getD_cons_zero, List.getD_cons_succ]
      (try simp only [hd])
      clear hd
      have cc := hS.t.cell HT0.out
      go_wp2
      exact ⟨rfl, rfl, rfl, belB⟩
    · (try simp only [DepsL, DL, IsV, List.getD_cons_zero, List.getD_cons_succ, Region.binds, and_true, true_and] at hd)
      simp only [putL, List.take_succ_cons, List.take_zero, List.drop_succ_cons, List.drop_zero, Act.put, List.setIfInBounds_toArray, List.set_cons_succ, List.set_cons_zero, List.getD_cons_zero, List.getD_cons_succ]
      (try simp only [hd])
      clear hd
      go_wp2
      exact ⟨rfl, rfl, rfl, belB⟩
    · (try simp only [DepsL, DL, IsV, List.getD_cons_zero, List.getD_cons_succ, Region.binds, and_true, true_and] at hd)
      simp only [putL, List.take_succ_cons, List.take_zero, List.drop_succ_cons, List.drop_zero, Act.put, List.setIfInBounds_toArray, List.set_cons_succ, List.set_cons_zero, List.getD_cons_zero, List.getD_cons_succ]
      (try simp only [hd])
      clear hd
      go_wp2
      exact ⟨rfl, rfl, rfl, belB⟩
    · (try simp only [DepsL, DL, IsV, List.getD_cons_zero, List.getD_cons_succ, Region.binds, and_true, true_and] at hd)
      simp only [putL, List.take_succ_cons, List.take_zero, List.drop_succ_cons, List.drop_zero, Act.put, List.setIfInBounds_toArray, List.set_cons_succ, List.set_cons_zero, List.getD_cons_zero, List.getD_cons_succ]
      (try simp only [hd])
      clear hd
      have cc := hS.x.cell HC11.out
      go_wp2
      exact ⟨rfl, rfl, rfl, belB⟩
    · (try simp only [DepsL, DL, IsV, List.getD_cons_zero, List.getD_cons_succ, Region.binds, and_true, true_and] at hd)
      simp only [putL, List.take_succ_cons, List.take_zero, List.drop_succ_cons, List.drop_zero, Act.put, List.setIfInBounds_toArray, List.set_cons_succ, List.set_cons_zero, List.getD_cons_zero, List.getD_cons_succ]
      (try simp only [hd])
      clear hd
      go_wp2
      exact ⟨rfl, rfl, rfl, belB⟩
    · (try simp only [DepsL, DL, IsV, List.getD_cons_zero, List.getD_cons_succ, Region.binds, and_true, true_and] at hd)
      simp only [putL, List.take_succ_cons, List.take_zero, List.drop_succ_cons, List.drop_zero, Act.put, List.setIfInBounds_toArray, List.set_cons_succ, List.set_cons_zero, List.getD_cons_zero, List.getD_cons_succ]
      (try simp only [hd])
      clear hd
      have cc := hS.x.cell HC7.out
      go_wp2
      exact ⟨rfl, rfl, rfl, belB⟩
    · (try simp only [DepsL, DL, IsV, List.getD_cons_zero, List.getD_cons_succ, Region.binds, and_true, true_and] at hd)
      simp only [putL, List.take_succ_cons, List.take_zero, List.drop_succ_cons, List.drop_zero, Act.put, List.setIfInBounds_toArray, List.set_cons_succ, List.set_cons_zero, List.getD_cons_zero, List.getD_cons_succ]
      (try simp only [hd])
      clear hd
      go_wp2
      exact ⟨rfl, rfl, rfl, belB⟩
    · (try simp only [DepsL, DL, IsV, List.getD_cons_zero, List.getD_cons_succ, Region.binds, and_true, true_and] at hd)
      simp only [putL, List.take_succ_cons, List.take_zero, List.drop_succ_cons, List.drop_zero, Act.put, List.setIfInBounds_toArray, List.set_cons_succ, List.set_cons_zero, List.getD_cons_zero, List.getD_cons_succ]
      (try simp only [hd])
      clear hd
      go_wp2_with (go_at_call 65; refine (rDecimal_any x.r.vary.length W (by have := HFI.out.nv; omega)).mono ?_; rintro e w2 ⟨rfl, hb2⟩)
      exact ⟨rfl, rfl, rfl, belB⟩
    · (try simp only [DepsL, DL, IsV, List.getD_cons_zero, List.getD_cons_succ, Region.binds, and_true, true_and] at hd)
      simp only [putL, List.take_succ_cons, List.take_zero, List.drop_succ_cons, List.drop_zero, Act.put, List.setIfInBounds_toArray, List.set_cons_succ, List.set_cons_zero, List.getD_cons_zero, List.getD_cons_succ]
      (try simp only [hd])
      clear hd
      go_wp2
      exact ⟨rfl, ⟨_, rfl, World.ownsRow_lit W ([x.r.name, x.r.pat, sepT 44 x.r.tags, numT [x.r.fresh, x.r.stale, x.r.down, x.r.neg, x.r.cost], tx, ob, x.r.prog, itoaB (x.r.vary.length : Int)].map Value.string).toArray 8 hS.s (by unfold maxLen; omega) rfl⟩, rfl, belB⟩
  · intro vals w9 hS9 hD
    obtain ⟨b8, e28, r8⟩ : OwnS (gt + 1) 8 [x.r.name, x.r.pat, sepT 44 x.r.tags, numT [x.r.fresh, x.r.stale, x.r.down, x.r.neg, x.r.cost], tx, ob, x.r.prog, itoaB (x.r.vary.length : Int)] (vals 28) w9 := hD 28 (by omega)
    simp only [putL, List.take_succ_cons, List.take_zero, List.drop_succ_cons, List.drop_zero, Act.put, List.setIfInBounds_toArray, List.set_cons_succ, List.set_cons_zero, List.getD_cons_zero, List.getD_cons_succ]
    simp only [e28]
    have HO8 := Lib.hid r8; have HS9 := Lib.hid hS9
    have hHD : headR x.r = [x.r.name, x.r.pat, sepT 44 x.r.tags, numT [x.r.fresh, x.r.stale, x.r.down, x.r.neg, x.r.cost], tx, ob, x.r.prog, itoaB (x.r.vary.length : Int)] := by rw [HTE.out, HOB.out, HSG.out]; rfl
    have hsp : partsR x.r = [x.r.name, x.r.pat, sepT 44 x.r.tags, numT [x.r.fresh, x.r.stale, x.r.down, x.r.neg, x.r.cost], tx, ob, x.r.prog, itoaB (x.r.vary.length : Int)] ++ (x.r.vary.drop 0).flatMap partsV := by rw [List.drop_zero, ← hHD]; rfl
    have HSP := Lib.hid hsp
    clear hD e28 HP2 r8 hS9 hHD hsp
    have y7 := HS9.out.x.cell HC7.out
    go_wp2_with fail
    clear y7
    go_loopw [5, 6] (fun pv jv wz => ∃ (j : Nat) (acc : List ByteArray) (B : Option Addr) (d : Nat), j ≤ x.r.vary.length ∧ jv = .int .i64 j ∧ pv = .slice B acc.length d ∧ acc.length ≤ 8 + 3 * j ∧ Hid (partsR x.r = acc ++ (x.r.vary.drop j).flatMap partsV) ∧ wz.ownsRow (gt + 1) 9 1 (.slice B acc.length d) acc.length (acc.map .string) ∧ Hid (PaS w X TV gt wz)) (fun _ jv _ => x.r.vary.length - (intOf jv).toNat)
    case atStart => exact ⟨0, [x.r.name, x.r.pat, sepT 44 x.r.tags, numT [x.r.fresh, x.r.stale, x.r.down, x.r.neg, x.r.cost], tx, ob, x.r.prog, itoaB (x.r.vary.length : Int)], some ⟨b8, 0, none⟩, 8, Nat.zero_le _, rfl, rfl, by simp, HSP, HO8.out, HS9⟩
    case round =>
      obtain ⟨j, acc, B, d, hj, rfl, rfl, hal, HSP2, hown, HZ⟩ := hrel
      clear HSP HO8 HS9
      have hnv10 : x.r.vary.length ≤ 10 := HFI.out.nv
      have y7 := HZ.out.x.cell HC7.out
      by_cases hlt : j < x.r.vary.length
      · have hLl : x.L.length = x.r.vary.length := by have h1 := congrArg List.length HRR.out.same; rwa [List.length_map] at h1
        obtain ⟨y, hy⟩ : ∃ y, x.L[j]? = some y := ⟨_, List.getElem?_eq_getElem (by omega)⟩
        have hym := List.mem_of_getElem? hy
        have hyv : x.r.vary[j]? = some y.v := by rw [← HRR.out.same, List.getElem?_map, hy]; rfl
        obtain ⟨bv, ov, hVV, hcell⟩ := Reads.row (HRR.out.vary.keep HZ.out.b) (fun a _ => a.cells_len) hLl hy
        have hvc : ∀ W, Below w.heap.size w W → ∀ i u, y.cells[i]? = some u → W.cell? ⟨bv, ov + j * 3 + i, none⟩ = some u := by
          intro W hb
          obtain ⟨b', o', e, hc⟩ := Reads.row (HRR.out.vary.keep hb) (fun a _ => a.cells_len) hLl hy
          rw [hVV] at e
          injection e with e
          injection e with e1 e2
          subst e1; subst e2
          exact hc
        have HVC0 := Lib.hid (show ∀ W, Below w.heap.size w W → W.cell? ⟨bv, ov + j * 3, none⟩ = some (.string y.v.header) from fun W hb => by have := hvc W hb 0 _ rfl; rwa [Nat.add_zero] at this)
        have HVC1 := Lib.hid (show ∀ W, Below w.heap.size w W → W.cell? ⟨bv, ov + j * 3 + 1, none⟩ = some (.slice y.A y.v.values.length y.c) from fun W hb => hvc W hb 1 _ rfl)
        have HVC2 := Lib.hid (show ∀ W, Below w.heap.size w W → W.cell? ⟨bv, ov + j * 3 + 2, none⟩ = some (.string y.v.dflt) from fun W hb => hvc W hb 2 _ rfl)
        have HC7y := Lib.hid (show X[7]? = some (.slice (some ⟨bv, ov, none⟩) x.r.vary.length x.cv) by rw [← hVV]; exact HC7.out)
        have hdy : x.r.vary.drop j = y.v :: x.r.vary.drop (j + 1) := by
          obtain ⟨hl2, e⟩ := List.getElem?_eq_some_iff.1 hyv
          rw [← e]
          exact List.drop_eq_getElem_cons hl2
        have hsp2 := HSP2.out
        rw [hdy, List.flatMap_cons, ← List.append_assoc] at hsp2
        have HYR := Lib.hid (HRR.out.each y hym); have HYF := Lib.hid (HFI.out.v y.v (List.mem_of_getElem? hyv)); have HSP3 := Lib.hid hsp2
        clear hdy hsp2 hvc hcell hyv hym hy hLl HSP2
        have hj0 : (0 : Int) ≤ (j : Int) := by omega
        have hj1 : (j : Int) < (x.r.vary.length : Int) := by omega
        go_upto_region 9 with fail
        clear y7
        refine wp_detD 21 (by kernel_rfl) (by kernel_rfl) (by kernel_rfl) (DL [IsV (.slice B acc.length d), IsV (.pointer (some ⟨w.heap.size, 7, none⟩)), IsV (.slice (some ⟨bv, ov, none⟩) x.r.vary.length x.cv), IsV (.int .i64 (j : Int)), IsV (.pointer (some ⟨bv, ov + j * 3, none⟩)), IsV (.pointer (some ⟨bv, ov + j * 3, none⟩)), IsV (.string y.v.header), IsV (.pointer (some ⟨w.heap.size, 7, none⟩)), IsV (.slice (some ⟨bv, ov, none⟩) x.r.vary.length x.cv), IsV (.int .i64 (j : Int)), IsV (.pointer (some ⟨bv, ov + j * 3, none⟩)), IsV (.pointer (some ⟨bv, ov + j * 3 + 1, none⟩)), IsV (.slice y.A y.v.values.length y.c), IsV (.string (sepT 32 y.v.values)), IsV (.pointer (some ⟨w.heap.size, 7, none⟩)), IsV (.slice (some ⟨bv, ov, none⟩) x.r.vary.length x.cv), IsV (.int .i64 (j : Int)), IsV (.pointer (some ⟨bv, ov + j * 3, none⟩)), IsV (.pointer (some ⟨bv, ov + j * 3 + 2, none⟩)), IsV (.string y.v.dflt), Strs 3 (partsV y.v)]) (DL.keep _ (by simp only [KeepAll]; repeat' (first | apply And.intro | exact keeps_is _ | exact keeps_five _ | exact keeps_strs _ _ | exact keeps_ownS _ _ _ | exact trivial))) (PaR w X TV gt wr) ⟨HZ.out.keep (Below.drew (Below.refl _ _)), Below.drew (Below.refl _ _)⟩ (fun _ _ h hb => h.keep hb) ?_ ?_
        · dsimp only [List.take_succ_cons, List.take_zero, DetD]
          refine ⟨fun vals W hS hd => ?_, fun vals W hS hd => ?_, fun vals W hS hd => ?_, fun vals W hS hd => ?_, fun vals W hS hd => ?_, fun vals W hS hd => ?_, fun vals W hS hd => ?_, fun vals W hS hd => ?_, fun vals W hS hd => ?_, fun vals W hS hd => ?_, fun vals W hS hd => ?_, fun vals W hS hd => ?_, fun vals W hS hd => ?_, fun vals W hS hd => ?_, fun vals W hS hd => ?_, fun vals W hS hd => ?_, fun vals W hS hd => ?_, fun vals W hS hd => ?_, fun vals W hS hd => ?_, fun vals W hS hd => ?_, fun vals W hS hd => ?_, trivial⟩
          · (try simp only [DepsL, DL, IsV, List.getD_cons_zero, List.getD_cons_succ, Region.binds, and_true, true_and] at hd)
            simp only [putL, List.take_succ_cons, List.take_zero, List.drop_succ_cons, List.drop_zero, Act.put, List.setIfInBounds_toArray, List.set_cons_succ, List.set_cons_zero, List.getD_cons_zero, List.getD_cons_succ]
            (try simp only [hd])
            clear hd
            go_wp2
            exact ⟨rfl, rfl, rfl, belB⟩
          · (try simp only [DepsL, DL, IsV, List.getD_cons_zero, List.getD_cons_succ, Region.binds, and_true, true_and] at hd)
            simp only [putL, List.take_succ_cons, List.take_zero, List.drop_succ_cons, List.drop_zero, Act.put, List.setIfInBounds_toArray, List.set_cons_succ, List.set_cons_zero, List.getD_cons_zero, List.getD_cons_succ]
            (try simp only [hd])
            clear hd
            go_wp2
            exact ⟨rfl, rfl, rfl, belB⟩
          · (try simp only [DepsL, DL, IsV, List.getD_cons_zero, List.getD_cons_succ, Region.binds, and_true, true_and] at hd)
            simp only [putL, List.take_succ_cons, List.take_zero, List.drop_succ_cons, List.drop_zero, Act.put, List.setIfInBounds_toArray, List.set_cons_succ, List.set_cons_zero, List.getD_cons_zero, List.getD_cons_succ]
            (try simp only [hd])
            clear hd
            have cc := hS.a.x.cell HC7y.out
            go_wp2
            exact ⟨rfl, rfl, rfl, belB⟩
          · (try simp only [DepsL, DL, IsV, List.getD_cons_zero, List.getD_cons_succ, Region.binds, and_true, true_and] at hd)
            simp only [putL, List.take_succ_cons, List.take_zero, List.drop_succ_cons, List.drop_zero, Act.put, List.setIfInBounds_toArray, List.set_cons_succ, List.set_cons_zero, List.getD_cons_zero, List.getD_cons_succ]
            (try simp only [hd])
            clear hd
            go_wp2
            exact ⟨rfl, rfl, rfl, belB⟩
          · (try simp only [DepsL, DL, IsV, List.getD_cons_zero, List.getD_cons_succ, Region.binds, and_true, true_and] at hd)
            simp only [putL, List.take_succ_cons, List.take_zero, List.drop_succ_cons, List.drop_zero, Act.put, List.setIfInBounds_toArray, List.set_cons_succ, List.set_cons_zero, List.getD_cons_zero, List.getD_cons_succ]
            (try simp only [hd])
            clear hd
            go_wp2
            exact ⟨rfl, rfl, rfl, belB⟩
          · (try simp only [DepsL, DL, IsV, List.getD_cons_zero, List.getD_cons_succ, Region.binds, and_true, true_and] at hd)
            simp only [putL, List.take_succ_cons, List.take_zero, List.drop_succ_cons, List.drop_zero, Act.put, List.setIfInBounds_toArray, List.set_cons_succ, List.set_cons_zero, List.getD_cons_zero, List.getD_cons_succ]
            (try simp only [hd])
            clear hd
            go_wp2
            exact ⟨rfl, rfl, rfl, belB⟩
          · (try simp only [DepsL, DL, IsV, List.getD_cons_zero, List.getD_cons_succ, Region.binds, and_true, true_and] at hd)
            simp only [putL, List.take_succ_cons, List.take_zero, List.drop_succ_cons, List.drop_zero, Act.put, List.setIfInBounds_toArray, List.set_cons_succ, List.set_cons_zero, List.getD_cons_zero, List.getD_cons_succ]
            (try simp only [hd])
            clear hd
            have cc := HVC0.out W hS.a.b
            go_wp2
            exact ⟨rfl, rfl, rfl, belB⟩
          · (try simp only [DepsL, DL, IsV, List.getD_cons_zero, List.getD_cons_succ, Region.binds, and_true, true_and] at hd)
            simp only [putL, List.take_succ_cons, List.take_zero, List.drop_succ_cons, List.drop_zero, Act.put, List.setIfInBounds_toArray, List.set_cons_succ, List.set_cons_zero, List.getD_cons_zero, List.getD_cons_succ]
            (try simp only [hd])
            clear hd
            go_wp2
            exact ⟨rfl, rfl, rfl, belB⟩
          · (try simp only [DepsL, DL, IsV, List.getD_cons_zero, List.getD_cons_succ, Region.binds, and_true, true_and] at hd)
            simp only [putL, List.take_succ_cons, List.take_zero, List.drop_succ_cons, List.drop_zero, Act.put, List.setIfInBounds_toArray, List.set_cons_succ, List.set_cons_zero, List.getD_cons_zero, List.getD_cons_succ]
            (try simp only [hd])
            clear hd
            have cc := hS.a.x.cell HC7y.out
            go_wp2
            exact ⟨rfl, rfl, rfl, belB⟩
          · (try simp only [DepsL, DL, IsV, List.getD_cons_zero, List.getD_cons_succ, Region.binds, and_true, true_and] at hd)
            simp only [putL, List.take_succ_cons, List.take_zero, List.drop_succ_cons, List.drop_zero, Act.put, List.setIfInBounds_toArray, List.set_cons_succ, List.set_cons_zero, List.getD_cons_zero, List.getD_cons_succ]
            (try simp only [hd])
            clear hd
            go_wp2
            exact ⟨rfl, rfl, rfl, belB⟩
          · (try simp only [DepsL, DL, IsV, List.getD_cons_zero, List.getD_cons_succ, Region.binds, and_true, true_and] at hd)
            simp only [putL, List.take_succ_cons, List.take_zero, List.drop_succ_cons, List.drop_zero, Act.put, List.setIfInBounds_toArray, List.set_cons_succ, List.set_cons_zero, List.getD_cons_zero, List.getD_cons_succ]
            (try simp only [hd])
            clear hd
            go_wp2
            exact ⟨rfl, rfl, rfl, belB⟩
          · (try simp only [DepsL, DL, IsV, List.getD_cons_zero, List.getD_cons_succ, Region.binds, and_true, true_and] at hd)
            simp only [putL, List.take_succ_cons, List.take_zero, List.drop_succ_cons, List.drop_zero, Act.put, List.setIfInBounds_toArray, List.set_cons_succ, List.set_cons_zero, List.getD_cons_zero, List.getD_cons_succ]
            (try simp only [hd])
            clear hd
            go_wp2
            exact ⟨rfl, rfl, rfl, belB⟩
          · (try simp only [DepsL, DL, IsV, List.getD_cons_zero, List.getD_cons_succ, Region.binds, and_true, true_and] at hd)
            simp only [putL, List.take_succ_cons, List.take_zero, List.drop_succ_cons, List.drop_zero, Act.put, List.setIfInBounds_toArray, List.set_cons_succ, List.set_cons_zero, List.getD_cons_zero, List.getD_cons_succ]
            (try simp only [hd])
            clear hd
            have cc := HVC1.out W hS.a.b
            go_wp2
            exact ⟨rfl, rfl, rfl, belB⟩
          · (try simp only [DepsL, DL, IsV, List.getD_cons_zero, List.getD_cons_succ, Region.binds, and_true, true_and] at hd)
            simp only [putL, List.take_succ_cons, List.take_zero, List.drop_succ_cons, List.drop_zero, Act.put, List.setIfInBounds_toArray, List.set_cons_succ, List.set_cons_zero, List.getD_cons_zero, List.getD_cons_succ]
            (try simp only [hd])
            clear hd
            go_wp2_with (go_at_call 129; refine (rJoined22_any 32 y.A y.v.values.length y.c y.v.values W (Reads.keep HYR.out hS.a.b) (by have := HYF.out.n; omega) (fun s hs => by have := HYF.out.x s hs; omega)).mono ?_; rintro e w2 ⟨rfl, hb2⟩)
            exact ⟨rfl, rfl, rfl, belB⟩
          · (try simp only [DepsL, DL, IsV, List.getD_cons_zero, List.getD_cons_succ, Region.binds, and_true, true_and] at hd)
            simp only [putL, List.take_succ_cons, List.take_zero, List.drop_succ_cons, List.drop_zero, Act.put, List.setIfInBounds_toArray, List.set_cons_succ, List.set_cons_zero, List.getD_cons_zero, List.getD_cons_succ]
            (try simp only [hd])
            clear hd
            go_wp2
            exact ⟨rfl, rfl, rfl, belB⟩
          · (try simp only [DepsL, DL, IsV, List.getD_cons_zero, List.getD_cons_succ, Region.binds, and_true, true_and] at hd)
            simp only [putL, List.take_succ_cons, List.take_zero, List.drop_succ_cons, List.drop_zero, Act.put, List.setIfInBounds_toArray, List.set_cons_succ, List.set_cons_zero, List.getD_cons_zero, List.getD_cons_succ]
            (try simp only [hd])
            clear hd
            have cc := hS.a.x.cell HC7y.out
            go_wp2
            exact ⟨rfl, rfl, rfl, belB⟩
          · (try simp only [DepsL, DL, IsV, List.getD_cons_zero, List.getD_cons_succ, Region.binds, and_true, true_and] at hd)
            simp only [putL, List.take_succ_cons, List.take_zero, List.drop_succ_cons, List.drop_zero, Act.put, List.setIfInBounds_toArray, List.set_cons_succ, List.set_cons_zero, List.getD_cons_zero, List.getD_cons_succ]
            (try simp only [hd])
            clear hd
            go_wp2
            exact ⟨rfl, rfl, rfl, belB⟩
          · (try simp only [DepsL, DL, IsV, List.getD_cons_zero, List.getD_cons_succ, Region.binds, and_true, true_and] at hd)
            simp only [putL, List.take_succ_cons, List.take_zero, List.drop_succ_cons, List.drop_zero, Act.put, List.setIfInBounds_toArray, List.set_cons_succ, List.set_cons_zero, List.getD_cons_zero, List.getD_cons_succ]
            (try simp only [hd])
            clear hd
            go_wp2
            exact ⟨rfl, rfl, rfl, belB⟩
          · (try simp only [DepsL, DL, IsV, List.getD_cons_zero, List.getD_cons_succ, Region.binds, and_true, true_and] at hd)
            simp only [putL, List.take_succ_cons, List.take_zero, List.drop_succ_cons, List.drop_zero, Act.put, List.setIfInBounds_toArray, List.set_cons_succ, List.set_cons_zero, List.getD_cons_zero, List.getD_cons_succ]
            (try simp only [hd])
            clear hd
            go_wp2
            exact ⟨rfl, rfl, rfl, belB⟩
          · (try simp only [DepsL, DL, IsV, List.getD_cons_zero, List.getD_cons_succ, Region.binds, and_true, true_and] at hd)
            simp only [putL, List.take_succ_cons, List.take_zero, List.drop_succ_cons, List.drop_zero, Act.put, List.setIfInBounds_toArray, List.set_cons_succ, List.set_cons_zero, List.getD_cons_zero, List.getD_cons_succ]
            (try simp only [hd])
            clear hd
            have cc := HVC2.out W hS.a.b
            go_wp2
            exact ⟨rfl, rfl, rfl, belB⟩
          · (try simp only [DepsL, DL, IsV, List.getD_cons_zero, List.getD_cons_succ, Region.binds, and_true, true_and] at hd)
            simp only [putL, List.take_succ_cons, List.take_zero, List.drop_succ_cons, List.drop_zero, Act.put, List.setIfInBounds_toArray, List.set_cons_succ, List.set_cons_zero, List.getD_cons_zero, List.getD_cons_succ]
            (try simp only [hd])
            clear hd
            go_wp2
            exact ⟨rfl, ⟨_, rfl, reads_new W 9 ((partsV y.v).map .string) 3 rfl⟩, rfl, belB⟩
        · intro vals w9 hS9 hD
          have e0 : vals 0 = .slice B acc.length d := hD 0 (by omega)
          obtain ⟨b3, e20, r3⟩ : Strs 3 (partsV y.v) (vals 20) w9 := hD 20 (by omega)
          simp only [putL, List.take_succ_cons, List.take_zero, List.drop_succ_cons, List.drop_zero, Act.put, List.setIfInBounds_toArray, List.set_cons_succ, List.set_cons_zero, List.getD_cons_zero, List.getD_cons_succ]
          simp only [e0, e20]
          have hown9 := ownsRow_keep hown hS9.c
          have HS9 := Lib.hid hS9
          clear hD e0 e20 hown HZ hS9
          go_wp2_with (at_builtin; refine wpList_append_own _ rfl _ _ 27 rfl (gt + 1) 9 i0 (.string ⟨#[]⟩) 1 16 Tryz.underlying27 HI.out.1 HI.out.2.1 HI.out.2.2.1 HI.out.2.2.2 rfl (by decide) _ _ _ rfl hown9 ⟨b3, 0, none⟩ 3 3 ((partsV y.v).map .string) rfl rfl (strs_news (by omega) r3) (strs_one _) (by unfold maxLen; omega) (by omega) HS9.out.a.s ?_; intro v' w10 hown' hgrow _; obtain ⟨g', cap', rfl⟩ := ownsRow_succ hown')
          have hb10 : Below (gt + 1) w9 w10 := Below.grown (Below.refl _ _) hgrow HS9.out.a.s (fun r e => ownsRow_block hown9 r e)
          have hZ10 := HS9.out.a.keep2 hwg hb10
          rw [← List.map_append] at hown'
          have hal2 : (acc ++ partsV y.v).length = acc.length + 3 := by rw [List.length_append]; rfl
          refine ⟨?_, by simp [intOf]; omega⟩
          repeat apply Exists.intro
          exact ⟨⟨j + 1, acc ++ partsV y.v, some ⟨g', 0, none⟩, cap', by omega, by go_num, by rw [hal2], by omega, HSP3, by rw [hal2]; exact hown', Lib.hid hZ10⟩, rfl⟩
      · have hjn : j = x.r.vary.length := by omega
        have hend := HSP2.out
        rw [hjn, List.drop_eq_nil_of_le (Nat.le_refl _), List.flatMap_nil, List.append_nil] at hend
        have HEND := Lib.hid hend; have HO := Lib.hid hown
        have hbz := HZ.out.b
        clear hend hown HSP2
        go_wp2_with fail
        go_ret
        rw [HEND.out]
        exact ⟨B, d, rfl, HO.out.mono (by omega), hbz⟩
end Go.Proofs.YtjhlpkhfdghngaaGreatDoor
namespace Go.Proofs.YtjhlpkhfdghngaaGreatDoor
open Go.RowKit Go.Sort
set_option linter.unusedVariables false
set_option linter.unusedSimpArgs false
set_option maxRecDepth 100000
theorem rot_bits2 (x n : Nat) (hx : x < 4294967296) (h2 : n ≤ 32) : bits .or .u32 ((x : Int) / 2 ^ n) ((x : Int) * 2 ^ (32 - n) % 4294967296) = ((Sha.rot x n : Nat) : Int) := by
  have h := u32_or_nat (x / 2 ^ n) (x * 2 ^ (32 - n) % 4294967296) (Nat.lt_of_le_of_lt (Nat.div_le_self _ _) hx) (Nat.mod_lt _ (by decide))
  have e1 : ((x * 2 ^ (32 - n) % 4294967296 : Nat) : Int) = (x : Int) * 2 ^ (32 - n) % 4294967296 := by simp
  have e2 : ((x / 2 ^ n : Nat) : Int) = (x : Int) / 2 ^ n := by simp
  rw [e1, e2] at h
  exact h
set_option maxHeartbeats 2000000 in
theorem rRotr_any (x n : Nat) (w : World) (hx : x < 4294967296) (h1 : 1 ≤ n) (h2 : n ≤ 31) : Calls Tryz.prog 255 #[.int .u32 (x : Int), .int .i64 (n : Int)] w (Ret w (.int .u32 (Sha.rot x n : Nat))) := by
  have hr := Lib.hid (rot_bits2 x n hx (by omega))
  have hs : IntKind.i64.wrap (32 - (n : Int)) = ((32 - n : Nat) : Int) := by rw [show (32 - (n : Int)) = ((32 - n : Nat) : Int) by omega]; exact IntWalk.i64_in _ (by omega)
  have hs2 : (32 - (n : Int)).toNat = 32 - n := by omega
  have hs3 : (0 : Int) ≤ 32 - (n : Int) := by omega
  go_enter Tryz.func255, Tryz.ntmps255
  go_wp2
  go_quiet (fail)
  go_wp2
  go_ret
  exact ⟨by rw [hr.out]; rfl, belB⟩
end Go.Proofs.YtjhlpkhfdghngaaGreatDoor
namespace Go.Proofs.YtjhlpkhfdghngaaGreatDoor
open Go.RowKit Go.Sort
set_option linter.unusedVariables false
set_option linter.unusedSimpArgs false
set_option maxRecDepth 100000
theorem or_sh (a x i : Nat) (hx : x < 2 ^ i) : (a * 2 ^ i) ||| x = a * 2 ^ i + x := by
  have := Nat.two_pow_add_eq_or_of_lt (i := i) (b := x) hx a
  rw [Nat.mul_comm] at this
  exact this.symm
theorem or24 (a b c d : Nat) (ha : a < 256) (hb : b < 256) (hc : c < 256) (hd : d < 256) : bits .or .u32 (bits .or .u32 (bits .or .u32 ((a : Int) * 16777216) ((b : Int) * 65536)) ((c : Int) * 256)) (d : Int) = ((((a * 256 + b) * 256 + c) * 256 + d : Nat) : Int) := by
  have h1 := u32_or_nat (a * 16777216) (b * 65536) (by omega) (by omega)
  rw [show a * 16777216 ||| b * 65536 = a * 16777216 + b * 65536 by
    have := or_sh a (b * 65536) 24 (by omega)
    rw [show (2 : Nat) ^ 24 = 16777216 by decide] at this
    exact this] at h1
  have h2 := u32_or_nat (a * 16777216 + b * 65536) (c * 256) (by omega) (by omega)
  rw [show a * 16777216 + b * 65536 ||| c * 256 = a * 16777216 + b * 65536 + c * 256 by
    have := or_sh (a * 256 + b) (c * 256) 16 (by omega)
    rw [show (2 : Nat) ^ 16 = 65536 by decide, show (a * 256 + b) * 65536 = a * 16777216 + b * 65536 by omega] at this
    exact this] at h2
  have h3 := u32_or_nat (a * 16777216 + b * 65536 + c * 256) d (by omega) (by omega)
  rw [show a * 16777216 + b * 65536 + c * 256 ||| d = a * 16777216 + b * 65536 + c * 256 + d by
    have := or_sh ((a * 256 + b) * 256 + c) d 8 (by omega)
    rw [show (2 : Nat) ^ 8 = 256 by decide, show ((a * 256 + b) * 256 + c) * 256 = a * 16777216 + b * 65536 + c * 256 by omega] at this
    exact this] at h3
  have e1 : ((a * 16777216 : Nat) : Int) = (a : Int) * 16777216 := by simp
  have e2 : ((b * 65536 : Nat) : Int) = (b : Int) * 65536 := by simp
  have e3 : ((c * 256 : Nat) : Int) = (c : Int) * 256 := by omega
  rw [e1, e2] at h1
  rw [e3] at h2
  rw [h1, h2, h3]
  congr 1
  omega
theorem wrap_add22 (a b : Nat) : IntKind.u32.wrap ((a : Int) + b) = ((Sha.add32 a b : Nat) : Int) := by
  rw [IntKind.wrap_u32]
  unfold Sha.add32
  omega
structure WoS (w : World) (L Z : List Nat) (W : World) : Prop where
  a : Row32 W (w.heap.size + 1) 276 L
  b : Row32 W w.heap.size 276 Z
  c : Below w.heap.size w W
theorem WoS.keep {w W W' : World} {L Z : List Nat} (h : WoS w L Z W) (hb : Below W.heap.size W W') : WoS w L Z W' := ⟨h.a.keep hb, h.b.keep hb, bstep h.c hb⟩
set_option maxHeartbeats 8000000 in
theorem rWords_any (A : Option Addr) (c : Nat) (b : List Nat) (w : World) (hR : Reads w 1 A 64 (b8 b)) (hb : ∀ x ∈ b, x < 256) :
    Calls Tryz.prog 254 #[.slice A 64 c] w (Ret w (.agg (w32 (Sha.sched b)).toArray)) := by
  obtain ⟨bb, bo, rfl, hcell⟩ := hR.2 (by decide)
  have hbl : b.length = 64 := by have := hR.1; simpa [b8] using this
  have hlt : bb < w.heap.size := by
    have := hcell 0 _ (b8_at b (k := 0) (by omega))
    exact cell_lt this
  have hS := sched_is hb
  generalize Sha.sched b = S at *
  have HS := Lib.hid hS
  have HB := Lib.hid hb; have HL := Lib.hid hbl; have HC := Lib.hid (fun k hk => hcell k _ (b8_at b (k := k) hk))
  clear hR hb hbl hcell hS
  go_enter Tryz.func254, Tryz.ntmps254
  go_wp2
  go_loopw [4] (fun i wr => ∃ t : Nat, t ≤ 16 ∧ i = .int .i64 t ∧ Hid (Row32 wr (w.heap.size + 1) 276 (pre S t)) ∧ Hid (Row32 wr w.heap.size 276 (pre S 0)) ∧ Below w.heap.size w wr) (fun i _ => 16 - (intOf i).toNat)
  case atStart =>
    refine ⟨0, by omega, rfl, Lib.hid ?_, Lib.hid ?_, belB⟩
    · rw [pre_zero]; exact Eq.trans (heap_alloc2_new w _ _) rfl
    · rw [pre_zero]; exact Eq.trans (heap_alloc2_old w _ _) rfl
  case round =>
    obtain ⟨t, ht, rfl, HW, HZ, hbw⟩ := hrel
    have hsz : w.heap.size + 1 < wr.heap.size := HW.out.lt
    by_cases h16 : t < 16
    · obtain ⟨wd, hwd⟩ : ∃ x : World, x = wr.drew := ⟨_, rfl⟩
      have hbd : Below w.heap.size w wd := by rw [hwd]; exact hbw.drew
      have hp : ∀ j, j < 4 → wd.cell? ⟨bb, bo + (4 * t + j), none⟩ = some (.int .u8 (b.getD (4 * t + j) 0 : Nat)) := fun j hj => cell_keep hbd (HC.out (4 * t + j) (by have := HL.out; omega))
      have y0 := hp 0 (by omega)
      have y1 := hp 1 (by omega)
      have y2 := hp 2 (by omega)
      have y3 := hp 3 (by omega)
      clear hp
      rw [Nat.add_zero] at y0
      have l0 := Sha.getD_lt HB.out (4 * t)
      have l1 := Sha.getD_lt HB.out (4 * t + 1)
      have l2 := Sha.getD_lt HB.out (4 * t + 2)
      have l3 := Sha.getD_lt HB.out (4 * t + 3)
      have hlo := HS.out.lo t h16
      rw [Sha.part4] at hlo
      unfold Sha.word at hlo
      simp only [Sha.getD_drop, Nat.add_zero] at hlo
      have hor := or24 _ _ _ _ l0 l1 l2 l3
      rw [← hlo] at hor
      clear hlo
      have HN : Hid (∀ W, Row32 W (w.heap.size + 1) 276 (pre S t) → Row32 (W.setCell ⟨w.heap.size + 1, t, none⟩ (.int .u32 (S.getD t 0 : Nat))) (w.heap.size + 1) 276 (pre S (t + 1))) := Lib.hid fun W h => by
        have := h.set_ t (S.getD t 0)
        rw [pre_succ HS.out.len (by omega)] at this; exact this
      have c5 : wd.cell? ⟨w.heap.size + 1, t, none⟩ = some (.int .u32 ((pre S t).getD t 0 : Nat)) := by rw [hwd]; exact HW.out.cell (k := t) (by rw [pre_len HS.out.len (by omega)]; omega)
      have f5 : wd.frozen? ⟨w.heap.size + 1, t, none⟩ = false := by rw [hwd]; exact HW.out.free t
      have HWd : Hid (Row32 wd (w.heap.size + 1) 276 (pre S t)) := Lib.hid (by rw [hwd]; exact HW.out)
      have HZd : Hid (Row32 wd w.heap.size 276 (pre S 0)) := Lib.hid (by rw [hwd]; exact HZ.out)
      generalize b.getD (4 * t) 0 = x0 at *
      generalize b.getD (4 * t + 1) 0 = x1 at *
      generalize b.getD (4 * t + 2) 0 = x2 at *
      generalize b.getD (4 * t + 3) 0 = x3 at *
      generalize S.getD t 0 = xs at *
      have HWD := Lib.hid hwd
      clear hwd
      obtain ⟨q0, hq0⟩ : ∃ q, q = 4 * t := ⟨_, rfl⟩
      obtain ⟨q1, hq1⟩ : ∃ q, q = 4 * t + 1 := ⟨_, rfl⟩
      obtain ⟨q2, hq2⟩ : ∃ q, q = 4 * t + 2 := ⟨_, rfl⟩
      obtain ⟨q3, hq3⟩ : ∃ q, q = 4 * t + 3 := ⟨_, rfl⟩
      have n0 : IntKind.i64.wrap (4 * (t : Int)) = (q0 : Int) := by rw [show 4 * (t : Int) = (q0 : Int) by omega]; exact IntWalk.i64_in _ (by omega)
      have n1 : IntKind.i64.wrap ((q0 : Int) + 1) = (q1 : Int) := by rw [show (q0 : Int) + 1 = (q1 : Int) by omega]; exact IntWalk.i64_in _ (by omega)
      have n2 : IntKind.i64.wrap ((q0 : Int) + 2) = (q2 : Int) := by rw [show (q0 : Int) + 2 = (q2 : Int) by omega]; exact IntWalk.i64_in _ (by omega)
      have n3 : IntKind.i64.wrap ((q0 : Int) + 3) = (q3 : Int) := by rw [show (q0 : Int) + 3 = (q3 : Int) by omega]; exact IntWalk.i64_in _ (by omega)
      have m0 : (q0 : Int) < 64 := by omega
      have m1 : (q1 : Int) < 64 := by omega
      have m2 : (q2 : Int) < 64 := by omega
      have m3 : (q3 : Int) < 64 := by omega
      rw [← hq0] at y0
      rw [← hq1] at y1
      rw [← hq2] at y2
      rw [← hq3] at y3
      have z0 : (0 : Int) ≤ (q0 : Int) := by omega
      have z1 : (0 : Int) ≤ (q1 : Int) := by omega
      have z2 : (0 : Int) ≤ (q2 : Int) := by omega
      have z3 : (0 : Int) ≤ (q3 : Int) := by omega
      clear hq0 hq1 hq2 hq3
      have v0 : IntKind.u32.wrap (x0 : Int) = x0 := IntWalk.u32_in _ (by omega)
      have v1 : IntKind.u32.wrap (x1 : Int) = x1 := IntWalk.u32_in _ (by omega)
      have v2 : IntKind.u32.wrap (x2 : Int) = x2 := IntWalk.u32_in _ (by omega)
      have v3 : IntKind.u32.wrap (x3 : Int) = x3 := IntWalk.u32_in _ (by omega)
      have v4 : IntKind.u32.wrap ((x0 : Int) * 16777216) = x0 * 16777216 := IntWalk.u32_in _ (by omega)
      have v5 : IntKind.u32.wrap ((x1 : Int) * 65536) = x1 * 65536 := IntWalk.u32_in _ (by omega)
      have v6 : IntKind.u32.wrap ((x2 : Int) * 256) = x2 * 256 := IntWalk.u32_in _ (by omega)
      have m4 : (t : Int) < 64 := by omega
      have z4 : (0 : Int) ≤ (t : Int) := by omega
      go_wp2_with fail
      refine wp_region_still_tail 35 (by kernel_rfl) (by kernel_rfl) ?_
      simp only [List.take_succ_cons, List.take_zero, List.drop_succ_cons, List.drop_zero]
      change wpStill _ _ wr.drew _ _ _
      rw [← HWD.out]
      repeat still_step
      refine wpStill_nil ?_
      change wpList _ _ _ _ _ wr.drew
      rw [← HWD.out]
      go_wp2_with fail
      exact ⟨⟨t + 1, by omega, by go_num, Lib.hid (HN.out _ HWd.out), Lib.hid (HZd.out.far _ _ (by simp)), belB⟩, by simp [intOf]; omega⟩
    · have ht16 : t = 16 := by omega
      have HW16 : Hid (Row32 wr (w.heap.size + 1) 276 (pre S 16)) := Lib.hid (by have := HW.out; rw [ht16] at this; exact this)
      have d16 : decide ((t : Int) < 16) = false := decide_eq_false (by omega)
      generalize (t : Int) = tI at *
      clear ht h16 ht16 HW
      go_wp2_with fail
      obtain ⟨wo, rfl⟩ : ∃ wo : World, wo = wr := ⟨_, rfl⟩
      go_loopw [5] (fun i wr => ∃ t : Nat, 16 ≤ t ∧ t ≤ 64 ∧ i = .int .i64 t ∧ Hid (Row32 wr (w.heap.size + 1) 276 (pre S t)) ∧ Hid (Row32 wr w.heap.size 276 (pre S 0)) ∧ Below w.heap.size w wr) (fun i _ => 64 - (intOf i).toNat)
      case atStart => exact ⟨16, by omega, by omega, rfl, HW16, HZ, hbw⟩
      case round =>
        obtain ⟨t, h16, ht, rfl, HW, HZ, hbw⟩ := hrel
        have hsz : w.heap.size + 1 < wr.heap.size := HW.out.lt
        by_cases h64 : t < 64
        · have g1 : ∀ k, k < t → (pre S t).getD k 0 = S.getD k 0 := fun k hk => pre_lt HS.out.len hk ht
          have g2 : (pre S t).length = 64 := pre_len HS.out.len ht
          have hi := HS.out.hi t h16 h64
          have l1 := HS.out.lt (t - 15)
          have l2 := HS.out.lt (t - 2)
          have l3 := HS.out.lt (t - 16)
          have l4 := HS.out.lt (t - 7)
          have HN : Hid (∀ W, Row32 W (w.heap.size + 1) 276 (pre S t) → Row32 (W.setCell ⟨w.heap.size + 1, t, none⟩ (.int .u32 (S.getD t 0 : Nat))) (w.heap.size + 1) 276 (pre S (t + 1))) := Lib.hid fun W h => by
            have := h.set_ t (S.getD t 0)
            rw [pre_succ HS.out.len h64] at this; exact this
          obtain ⟨t15, ht15⟩ : ∃ q, q = t - 15 := ⟨_, rfl⟩
          obtain ⟨t2, ht2⟩ : ∃ q, q = t - 2 := ⟨_, rfl⟩
          obtain ⟨t16, ht16⟩ : ∃ q, q = t - 16 := ⟨_, rfl⟩
          obtain ⟨t7, ht7⟩ : ∃ q, q = t - 7 := ⟨_, rfl⟩
          rw [← ht15] at hi l1
          rw [← ht2] at hi l2
          rw [← ht16] at hi l3
          rw [← ht7] at hi l4
          have n1 : IntKind.i64.wrap ((t : Int) - 15) = (t15 : Int) := by rw [show (t : Int) - 15 = (t15 : Int) by omega]; exact IntWalk.i64_in _ (by omega)
          have n2 : IntKind.i64.wrap ((t : Int) - 2) = (t2 : Int) := by rw [show (t : Int) - 2 = (t2 : Int) by omega]; exact IntWalk.i64_in _ (by omega)
          have n3 : IntKind.i64.wrap ((t : Int) - 16) = (t16 : Int) := by rw [show (t : Int) - 16 = (t16 : Int) by omega]; exact IntWalk.i64_in _ (by omega)
          have n4 : IntKind.i64.wrap ((t : Int) - 7) = (t7 : Int) := by rw [show (t : Int) - 7 = (t7 : Int) by omega]; exact IntWalk.i64_in _ (by omega)
          have C1 : Hid (∀ W, Row32 W (w.heap.size + 1) 276 (pre S t) → W.cell? ⟨w.heap.size + 1, t15, none⟩ = some (.int .u32 (S.getD t15 0 : Nat))) := Lib.hid fun W h => by have := h.cell (k := t15) (by omega); rw [g1 t15 (by omega)] at this; exact this
          have C2 : Hid (∀ W, Row32 W (w.heap.size + 1) 276 (pre S t) → W.cell? ⟨w.heap.size + 1, t2, none⟩ = some (.int .u32 (S.getD t2 0 : Nat))) := Lib.hid fun W h => by have := h.cell (k := t2) (by omega); rw [g1 t2 (by omega)] at this; exact this
          have C3 : Hid (∀ W, Row32 W (w.heap.size + 1) 276 (pre S t) → W.cell? ⟨w.heap.size + 1, t16, none⟩ = some (.int .u32 (S.getD t16 0 : Nat))) := Lib.hid fun W h => by have := h.cell (k := t16) (by omega); rw [g1 t16 (by omega)] at this; exact this
          have C4 : Hid (∀ W, Row32 W (w.heap.size + 1) 276 (pre S t) → W.cell? ⟨w.heap.size + 1, t7, none⟩ = some (.int .u32 (S.getD t7 0 : Nat))) := Lib.hid fun W h => by have := h.cell (k := t7) (by omega); rw [g1 t7 (by omega)] at this; exact this
          have C5 : Hid (∀ W, Row32 W (w.heap.size + 1) 276 (pre S t) → W.cell? ⟨w.heap.size + 1, t, none⟩ = some (.int .u32 ((pre S t).getD t 0 : Nat))) := Lib.hid fun W h => h.cell (k := t) (by omega)
          have b1 : (t15 : Int) < 64 := by omega
          have b2 : (t2 : Int) < 64 := by omega
          have b3 : (t16 : Int) < 64 := by omega
          have b4 : (t7 : Int) < 64 := by omega
          have b5 : (t : Int) < 64 := by omega
          have u1 : (0 : Int) ≤ (t15 : Int) := by omega
          have u2 : (0 : Int) ≤ (t2 : Int) := by omega
          have u3 : (0 : Int) ≤ (t16 : Int) := by omega
          have u4 : (0 : Int) ≤ (t7 : Int) := by omega
          have u5 : (0 : Int) ≤ (t : Int) := by omega
          have d1 : decide ((t : Int) < 64) = true := decide_eq_true b5
          clear ht15 ht2 ht16 ht7 g1 g2
          generalize S.getD t 0 = x0 at *
          generalize S.getD t15 0 = p at *
          generalize S.getD t2 0 = q at *
          generalize S.getD t16 0 = x3 at *
          generalize S.getD t7 0 = x4 at *
          have r1 := Lib.hid (show ∀ W : World, Calls Tryz.prog 255 #[.int .u32 (p : Int), .int .i64 7] W (Ret W (.int .u32 (Sha.rot p 7 : Nat))) from fun W => rRotr_any p 7 W l1 (by omega) (by omega))
          have r2 := Lib.hid (show ∀ W : World, Calls Tryz.prog 255 #[.int .u32 (p : Int), .int .i64 18] W (Ret W (.int .u32 (Sha.rot p 18 : Nat))) from fun W => rRotr_any p 18 W l1 (by omega) (by omega))
          have r3 := Lib.hid (show ∀ W : World, Calls Tryz.prog 255 #[.int .u32 (q : Int), .int .i64 17] W (Ret W (.int .u32 (Sha.rot q 17 : Nat))) from fun W => rRotr_any q 17 W l2 (by omega) (by omega))
          have r4 := Lib.hid (show ∀ W : World, Calls Tryz.prog 255 #[.int .u32 (q : Int), .int .i64 19] W (Ret W (.int .u32 (Sha.rot q 19 : Nat))) from fun W => rRotr_any q 19 W l2 (by omega) (by omega))
          have x1 := xor_words (Sha.rot p 7) (Sha.rot p 18) (Sha.rot_lt p 7 l1) (Sha.rot_lt p 18 l1)
          have x2 : bits .xor .u32 ((Sha.rot p 7 ^^^ Sha.rot p 18 : Nat) : Int) ((p : Int) / 8) = ((Sha.s0 p : Nat) : Int) := xor_words (Sha.rot p 7 ^^^ Sha.rot p 18) (p / 8) (Sha.xor_lt (Sha.rot_lt p 7 l1) (Sha.rot_lt p 18 l1)) (by omega)
          have x3' := xor_words (Sha.rot q 17) (Sha.rot q 19) (Sha.rot_lt q 17 l2) (Sha.rot_lt q 19 l2)
          have x4' : bits .xor .u32 ((Sha.rot q 17 ^^^ Sha.rot q 19 : Nat) : Int) ((q : Int) / 1024) = ((Sha.s1 q : Nat) : Int) := xor_words (Sha.rot q 17 ^^^ Sha.rot q 19) (q / 1024) (Sha.xor_lt (Sha.rot_lt q 17 l2) (Sha.rot_lt q 19 l2)) (by omega)
          have l5 := Sha.s0_lt p l1
          have l6 := Sha.s1_lt q l2
          have a1 := wrap_add22 x3 (Sha.s0 p)
          have a2 := wrap_add22 (Sha.add32 x3 (Sha.s0 p)) x4
          have a3 := wrap_add22 (Sha.add32 (Sha.add32 x3 (Sha.s0 p)) x4) (Sha.s1 q)
          rw [← hi] at a3
          clear hi
          generalize Sha.add32 (Sha.add32 x3 (Sha.s0 p)) x4 = aa at *
          generalize Sha.add32 x3 (Sha.s0 p) = ab at *
          generalize Sha.s0 p = s0 at *
          generalize Sha.s1 q = s1 at *
          generalize Sha.rot p 7 = p7 at *
          generalize Sha.rot p 18 = p18 at *
          generalize Sha.rot q 17 = q17 at *
          generalize Sha.rot q 19 = q19 at *
          generalize p7 ^^^ p18 = px at *
          generalize q17 ^^^ q19 = qx at *
          have HA := Lib.hid (And.intro n3 (And.intro n4 (And.intro a1 (And.intro a2 a3))))
          have HQ := Lib.hid (And.intro n2 (And.intro x3' x4'))
          clear n3 n4 a1 a2 a3 n2 x3' x4'
          have HWo := Lib.hid (WoS.mk HW.out HZ.out hbw)
          clear HW HZ hbw hsz
          go_wp2_with fail
          refine wp_det 17 (by kernel_rfl) (by kernel_rfl) (by kernel_rfl) (fun i => [.int .i64 t, .int .i64 t15, .pointer (some ⟨w.heap.size + 1, t15, none⟩), .int .u32 p, .int .u32 p7, .int .i64 t, .int .i64 t15, .pointer (some ⟨w.heap.size + 1, t15, none⟩), .int .u32 p, .int .u32 p18, .int .u32 px, .int .i64 t, .int .i64 t15, .pointer (some ⟨w.heap.size + 1, t15, none⟩), .int .u32 p, .int .u32 ((p : Int) / 8), .int .u32 s0].getD i undef) (WoS w (pre S t) (pre S 0)) (HWo.out.keep (Below.drew (Below.refl _ _))) (fun _ _ h hb => h.keep hb) ?_ ?_
          · simp only [putL, List.take_succ_cons, List.take_zero, List.drop_succ_cons, List.drop_zero, Act.put, List.setIfInBounds_toArray, List.set_cons_succ, List.set_cons_zero, List.getD_cons_zero, List.getD_cons_succ]
            refine ⟨fun W hS => ?_, fun W hS => ?_, fun W hS => ?_, fun W hS => ?_, fun W hS => ?_, fun W hS => ?_, fun W hS => ?_, fun W hS => ?_, fun W hS => ?_, fun W hS => ?_, fun W hS => ?_, fun W hS => ?_, fun W hS => ?_, fun W hS => ?_, fun W hS => ?_, fun W hS => ?_, fun W hS => ?_, trivial⟩
            all_goals
              have c1 := C1.out _ hS.a
              go_wp2_with (go_at_call 255; (first | (with_reducible refine (r1.out _).mono ?_) | (with_reducible refine (r2.out _).mono ?_)); rintro e w2 ⟨rfl, hb2⟩)
              exact ⟨rfl, rfl, belB⟩
          intro w1 hW1
          have HW1 := Lib.hid hW1
          clear hW1 HWo x1 x2 n1 C1
          simp only [putL, List.take_succ_cons, List.take_zero, List.drop_succ_cons, List.drop_zero, Act.put, List.setIfInBounds_toArray, List.set_cons_succ, List.set_cons_zero, List.getD_cons_zero, List.getD_cons_succ]
          obtain ⟨n2, x3', x4'⟩ := HQ.out
          go_upto_region 10 with fail
          refine wp_det 17 (by kernel_rfl) (by kernel_rfl) (by kernel_rfl) (fun i => [.int .i64 t, .int .i64 t2, .pointer (some ⟨w.heap.size + 1, t2, none⟩), .int .u32 q, .int .u32 q17, .int .i64 t, .int .i64 t2, .pointer (some ⟨w.heap.size + 1, t2, none⟩), .int .u32 q, .int .u32 q19, .int .u32 qx, .int .i64 t, .int .i64 t2, .pointer (some ⟨w.heap.size + 1, t2, none⟩), .int .u32 q, .int .u32 ((q : Int) / 1024), .int .u32 s1].getD i undef) (WoS w (pre S t) (pre S 0)) (HW1.out.keep (Below.drew (Below.refl _ _))) (fun _ _ h hb => h.keep hb) ?_ ?_
          · simp only [putL, List.take_succ_cons, List.take_zero, List.drop_succ_cons, List.drop_zero, Act.put, List.setIfInBounds_toArray, List.set_cons_succ, List.set_cons_zero, List.getD_cons_zero, List.getD_cons_succ]
            refine ⟨fun W hS => ?_, fun W hS => ?_, fun W hS => ?_, fun W hS => ?_, fun W hS => ?_, fun W hS => ?_, fun W hS => ?_, fun W hS => ?_, fun W hS => ?_, fun W hS => ?_, fun W hS => ?_, fun W hS => ?_, fun W hS => ?_, fun W hS => ?_, fun W hS => ?_, fun W hS => ?_, fun W hS => ?_, trivial⟩
            all_goals
              have c1 := C2.out _ hS.a
              go_wp2_with (go_at_call 255; (first | (with_reducible refine (r3.out _).mono ?_) | (with_reducible refine (r4.out _).mono ?_)); rintro e w2 ⟨rfl, hb2⟩)
              exact ⟨rfl, rfl, belB⟩
          intro w2 hW2
          have HW2 := Lib.hid hW2
          clear hW2 HW1 HQ n2 x3' x4' C2 r1 r2 r3 r4
          simp only [putL, List.take_succ_cons, List.take_zero, List.drop_succ_cons, List.drop_zero, Act.put, List.setIfInBounds_toArray, List.set_cons_succ, List.set_cons_zero, List.getD_cons_zero, List.getD_cons_succ]
          obtain ⟨n3, n4, a1, a2, a3⟩ := HA.out
          clear HA
          go_upto_region 11 with fail
          obtain ⟨wd, hwd⟩ : ∃ x : World, x = w2.drew := ⟨_, rfl⟩
          have HWd : Hid (WoS w (pre S t) (pre S 0) wd) := Lib.hid (by rw [hwd]; exact HW2.out.keep (Below.drew (Below.refl _ _)))
          have HWD := Lib.hid hwd
          clear hwd
          have c3 := C3.out _ HWd.out.a
          have c4 := C4.out _ HWd.out.a
          have c5 := C5.out _ HWd.out.a
          have f5 := HWd.out.a.free t
          have hbd := HWd.out.c
          refine wp_region_still_tail 15 (by kernel_rfl) (by kernel_rfl) ?_
          simp only [List.take_succ_cons, List.take_zero, List.drop_succ_cons, List.drop_zero]
          change wpStill _ _ w2.drew _ _ _
          rw [← HWD.out]
          repeat still_step
          refine wpStill_nil ?_
          change wpList _ _ _ _ _ w2.drew
          rw [← HWD.out]
          go_wp2_with fail
          exact ⟨⟨t + 1, by omega, by omega, by go_num, Lib.hid (HN.out _ HWd.out.a), Lib.hid (HWd.out.b.far _ _ (by simp)), belB⟩, by simp [intOf]; omega⟩
        · have he : t = 64 := by omega
          have HW2 : Hid (Row32 wr (w.heap.size + 1) 276 S) := Lib.hid (by
            have := HW.out
            rw [he, pre_all HS.out.len] at this; exact this)
          have hl : (w32 S).length = 64 := by rw [w32_len, HS.out.len]
          have hi : (Tryz.prog.info? 276).map (·.size) = some (w32 S).toArray.size := by rw [List.size_toArray, hl]; kernel_rfl
          have hpl : (w32 (pre S 0)).toArray.size = (w32 S).toArray.size := by rw [List.size_toArray, List.size_toArray, hl, w32_len, pre_len HS.out.len (by omega)]
          have h1 : (w32 S).toArray.all (·.oneCell') = true := by rw [List.all_toArray, List.all_eq_true]; exact w32_one S
          clear he HW
          go_wp2_with (first | (refine wpList_load_row rfl _ _ rfl (w.heap.size + 1) rfl _ (w32 S).toArray (0, 0) _ HW2.out Tryz.underlying276 rfl hi ?_) | (refine wpList_store_row rfl _ _ _ rfl w.heap.size (w32 S).toArray rfl rfl _ _ HZ.out hi hpl h1 ?_))
          refine bodyPost_ret (v := .agg (w32 S).toArray) ?_ rfl ⟨rfl, ?_⟩
          · exact results_cell_row rfl _ _ w.heap.size _ _ (0, 0) _ rfl (setRow_heap _ _ _ _ _ _ HZ.out) Tryz.underlying276 rfl hi
          · exact below_setRow hbw (Nat.le_refl _) _
end Go.Proofs.YtjhlpkhfdghngaaGreatDoor
namespace Go.Proofs.YtjhlpkhfdghngaaGreatDoor
open Go.RowKit Go.Sort
set_option linter.unusedVariables false
set_option linter.unusedSimpArgs false
set_option maxRecDepth 100000
set_option maxHeartbeats 4000000 in
theorem rInt01_any (n : Nat) (w : World) (hn : n ≤ 1000000000000) : Calls Tryz.prog 256 #[.int .i64 (n : Int)] w (OwnB (Sha.vint (2 * n)) w) := by
  obtain ⟨i0, hi, hz0, hz1, hz2⟩ := info_parts infoByte22
  have HI := Lib.hid (And.intro hi (And.intro hz0 (And.intro hz1 hz2)))
  clear hi hz0 hz1 hz2
  have hzz : IntKind.u64.wrap ((n : Int) * 2) = ((2 * n : Nat) : Int) := by rw [show ((n : Int) * 2) = ((2 * n : Nat) : Int) by omega]; exact IntWalk.u64_in _ (by omega)
  obtain ⟨V, hV⟩ : ∃ V, V = Sha.vint (2 * n) := ⟨_, rfl⟩
  rw [← hV]
  have HV := Lib.hid hV
  clear hV
  have e63 : (n : Int) / 9223372036854775808 = 0 := by omega
  go_enter Tryz.func256, Tryz.ntmps256
  go_wp2
  go_loopw [3, 4] (fun zv ov wr => ∃ (f z : Nat) (acc : List Nat) (A : Option Addr) (c : Nat), zv = .int .u64 (z : Int) ∧ ov = .slice A acc.length c ∧ z < 128 ^ (f + 1) ∧ f ≤ 7 ∧ acc.length + f = 7 ∧ Hid (V = acc ++ Sha.vintF (f + 3) z) ∧ wr.ownsRow w.heap.size 5 1 (.slice A acc.length c) acc.length (b8 acc) ∧ Below w.heap.size w wr) (fun zv _ _ => (intOf zv).toNat)
  case atStart =>
    refine ⟨7, 2 * n, [], none, 0, by simp, rfl, by simp; omega, by omega, rfl, Lib.hid ?_, World.ownsRow_nil _ _ _ _, Below.refl _ _⟩
    rw [HV.out]; rfl
  case round =>
    obtain ⟨f, z, acc, A, c, rfl, rfl, hz, hf, hfl, HVA, hown, hbr⟩ := hrel
    have hbs := hbr.size
    have hzb : z < 128 ^ 8 := Nat.lt_of_lt_of_le hz (Nat.pow_le_pow_right (by decide) (by omega))
    have hz0 : (0 : Int) ≤ z := by omega
    have hm1 : (0 : Int) ≤ (z : Int) % 128 := by omega
    have hm2 : (z : Int) % 128 < 128 := by omega
    have hor : IntKind.u8.wrap ((z : Int) % 128 + 128) = ((z % 128 + 128 : Nat) : Int) := by rw [show (z : Int) % 128 + 128 = ((z % 128 + 128 : Nat) : Int) by omega]; exact IntWalk.u8_in _ (by omega)
    obtain ⟨k, hk⟩ : ∃ k, k = acc.length := ⟨_, rfl⟩
    have hkk : k ≤ 7 := by omega
    have HKL := Lib.hid hk
    rw [← hk] at hown ⊢
    clear hk
    by_cases h : z < 128
    · have hV1 : V = acc ++ [z] := by
        rw [HVA.out]
        show acc ++ (if z < 128 then [z] else _) = _
        rw [if_pos h]
      have d1 : decide (127 < (z : Int)) = false := by simp; omega
      have d2 : decide ((128 : Int) ≤ (z : Int)) = false := by simp; omega
      have d3 : decide ((z : Int) < 128) = true := by simp; omega
      have hm : (z : Int) % 256 = z := by omega
      have HV1 := Lib.hid hV1
      clear HVA hV1
      go_wp2_with (at_builtin; refine wpList_append_own _ rfl _ _ 173 rfl w.heap.size 5 i0 (.int .u8 0) 1 1 Tryz.underlying173 HI.out.1 HI.out.2.1 HI.out.2.2.1 HI.out.2.2.2 rfl (by decide) _ _ _ rfl (hown.alloc _) ⟨wr.heap.size, 0, none⟩ 1 1 [.int .u8 (z : Int)] rfl rfl (cell_one_new _ _ _) (by simp [Value.oneCell']) (by unfold maxLen; omega) (by omega) (by simp; omega) ?_; intro v' w3 hown1 hgrow1 _; obtain ⟨g1, cap1, rfl⟩ := ownsRow_succ hown1; have hb3 : Below w.heap.size w w3 := (hbr.alloc hbs _).grown hgrow1 (by simp; omega) (fun r e => ownsRow_block hown r e); have hbs3 := hb3.size; clear hown)
      go_ret
      refine ⟨some ⟨g1, 0, none⟩, cap1, ?_, ?_, hb3⟩
      · rw [HV1.out, List.length_append, ← HKL.out]; rfl
      · rw [HV1.out, List.length_append, ← HKL.out, b8_app]; exact hown1
    · have hV1 : V = (acc ++ [z % 128 + 128]) ++ Sha.vintF (f + 2) (z / 128) := by
        rw [HVA.out]
        show acc ++ (if z < 128 then [z] else (z % 128 + 128) :: Sha.vintF (f + 2) (z / 128)) = _
        rw [if_neg h, List.append_assoc]; rfl
      have d1 : decide (127 < (z : Int)) = true := by simp; omega
      have d2 : decide ((128 : Int) ≤ (z : Int)) = true := by simp; omega
      have d3 : decide ((z : Int) < 128) = false := by simp; omega
      have hf0 : 0 < f := by
        rcases Nat.eq_zero_or_pos f with h0 | h0
        · subst h0; simp at hz; omega
        · exact h0
      have hz2 : z / 128 < 128 ^ (f - 1 + 1) := by
        rw [show f - 1 + 1 = f by omega]
        rw [Nat.pow_succ] at hz
        exact Nat.div_lt_of_lt_mul (by rw [Nat.mul_comm]; exact hz)
      have HV1 := Lib.hid hV1
      have HZ2 := Lib.hid hz2
      clear HVA hV1 hz2 hz
      go_wp2_with (at_builtin; refine wpList_append_own _ rfl _ _ 173 rfl w.heap.size 5 i0 (.int .u8 0) 1 1 Tryz.underlying173 HI.out.1 HI.out.2.1 HI.out.2.2.1 HI.out.2.2.2 rfl (by decide) _ _ _ rfl (hown.alloc _) ⟨wr.heap.size, 0, none⟩ 1 1 [.int .u8 ((z % 128 + 128 : Nat) : Int)] rfl rfl (cell_one_new _ _ _) (by simp [Value.oneCell']) (by unfold maxLen; omega) (by omega) (by simp; omega) ?_; intro v' w3 hown1 hgrow1 _; obtain ⟨g1, cap1, rfl⟩ := ownsRow_succ hown1; have hb3 : Below w.heap.size w w3 := (hbr.alloc hbs _).grown hgrow1 (by simp; omega) (fun r e => ownsRow_block hown r e); have hbs3 := hb3.size; clear hown)
      have hal : (acc ++ [z % 128 + 128]).length = k + 1 := by rw [List.length_append, ← HKL.out]; rfl
      refine ⟨⟨f - 1, z / 128, acc ++ [z % 128 + 128], some ⟨g1, 0, none⟩, cap1, by simp, by rw [hal], HZ2.out, by omega, by rw [hal]; have := HKL.out; omega, Lib.hid ?_, ?_, hb3⟩, ?_⟩
      · rw [HV1.out, show f - 1 + 3 = f + 2 by omega]
      · rw [hal, b8_app]; exact hown1
      · simp [intOf]; omega
set_option maxHeartbeats 4000000 in
theorem rBytes01_any (s : ByteArray) (w : World) (hs : s.size ≤ 1000000000000) : Calls Tryz.prog 200 #[.string s] w (OwnB (Sha.wireB (nb s)) w) := by
  obtain ⟨i0, hi, hz0, hz1, hz2⟩ := info_parts infoByte22
  have HI := Lib.hid (And.intro hi (And.intro hz0 (And.intro hz1 hz2)))
  clear hi hz0 hz1 hz2
  have hin := rInt01_any s.size w hs
  obtain ⟨V, hV⟩ : ∃ V, V = Sha.vint (2 * s.size) := ⟨_, rfl⟩
  have hW : Sha.wireB (nb s) = V ++ nb s := by unfold Sha.wireB; rw [nb_len, hV]
  rw [← hV] at hin
  rw [hW]
  have hVl : V.length ≤ 11 := by rw [hV]; exact Sha.vint_len _
  obtain ⟨k, hk⟩ : ∃ k, k = V.length := ⟨_, rfl⟩
  have hkk : k ≤ 11 := by omega
  have HKL := Lib.hid hk
  unfold OwnB at hin
  rw [← hk] at hin
  have HIN := Lib.hid hin
  clear hin hV hW hVl hk
  go_enter Tryz.func200, Tryz.ntmps200
  go_wp2_with (first | (go_at_call 256; refine HIN.out.mono ?_; rintro e w2 ⟨A, c, rfl, hown, hb2⟩) | (at_builtin; refine Lib.wpList_append_own_string _ rfl _ _ 173 9 rfl w.heap.size 5 i0 Tryz.underlying173 Tryz.underlying9 HI.out.1 HI.out.2.1 HI.out.2.2.1 HI.out.2.2.2 _ _ _ rfl hown s rfl (by unfold maxLen; omega) (by omega) (by have := hb2.size; omega) ?_; intro v' w3 hown1 hgrow1 _))
  obtain ⟨A', c', rfl⟩ := own_slice hown1
  go_ret
  have hl : (V ++ nb s).length = k + s.size := by rw [List.length_append, nb_len, ← HKL.out]
  refine ⟨A', c', by rw [hl]; rfl, ?_, hb2.grown hgrow1 (by have := hb2.size; omega) (fun r e => ownsRow_block hown r e)⟩
  rw [hl, b8_app, ← strCells_nb]; exact hown1
end Go.Proofs.YtjhlpkhfdghngaaGreatDoor
namespace Go.Proofs.YtjhlpkhfdghngaaGreatDoor
open Go.RowKit Go.Sort
set_option linter.unusedVariables false
set_option linter.unusedSimpArgs false
set_option maxRecDepth 100000
section
variable {P : Program}
theorem grown_self (w : World) (r : Option Nat) : w.grownBy w r := ⟨rfl, rfl, rfl, Nat.le_refl _, fun _ _ _ => rfl⟩
theorem wpList_append_reads {ops : Array Oper} {rest : List Oper} {o : Oper} {a : Act} {Q : Exit → Act → World → Prop} (w : World) (hgd : o.guard = none) (s x : Operand) (t : TypeId)
    (ho : o.op = .call { callee := .builtin .append, args := #[s, x], argTypes := #[t, t] })
    (base : Nat) (e : TypeId) (i : TypeInfo) (z : Value) (bytes : Nat) (ht : P.underlying t = some (.slice e)) (hi : P.info? e = some i) (hz : i.zero = some z)
    (hsize : i.size = 1) (hby : i.bytes = bytes) (hzs : z.cells.size = 1)
    (v : Value) (n : Nat) (xs : List Value) (hs : a.eval s = v) (hown : w.ownsRow base e 1 v n xs)
    (A : Option Addr) (m c : Nat) (ys : List Value) (hx : a.eval x = .slice A m c) (hR : Reads w 1 A m ys) (h1 : ∀ u ∈ ys, u.oneCell' = true)
    (h63 : n + m ≤ maxLen) (hbytes : (n + m) * bytes ≤ 140737488355328) (hbase : base ≤ w.heap.size)
    (h : ∀ v' w', w'.ownsRow base e 1 v' (n + m) (xs ++ ys) → w.grownBy w' v.ownBlock → wpList P ops Q rest (a.put o.dst v') w') : wpList P ops Q (o :: rest) a w := by
  rcases Nat.eq_zero_or_pos m with h0 | h0
  · subst h0
    have hys : ys = [] := List.eq_nil_of_length_eq_zero (by have := hR.1; omega)
    subst hys
    have hh := h v w (by rw [List.append_nil]; exact hown) (grown_self w _)
    obtain ⟨A0, k0, c0, hv, hle⟩ : ∃ A0 k0 c0, v = .slice A0 k0 c0 ∧ k0 ≤ c0 := by
      rcases hown.2 with ⟨e1, _⟩ | ⟨g, cap, cur, e1, _, _, hle, _⟩
      · exact ⟨none, 0, 0, e1, Nat.le_refl _⟩
      · exact ⟨_, n, cap, e1, hle⟩
    have hr := run_append_nothing w t t o.type e i ht hi A0 k0 c0 hle (.slice A 0 c) ⟨.inl ⟨e, ht⟩, fun w' => by simp [Builtin.lenOf], by cases A <;> simp [Builtin.firstCells, loadCells, loadCellsFrom], by cases A <;> simp [Builtin.firstCells, loadCells, loadCellsFrom], by simp, by simp⟩
    refine wpList_plain hgd fun K hK => ?_
    unfold Oper.wp execOp
    simp only [ho, resolve, invoke, builtin, Sem.run_bind, Sem.run_pure, Result.andThen_ok, List.map_toArray, List.map_cons, List.map_nil, hs, hx, hv, hr]
    rw [← hv]
    exact hK _ _ hh
  · obtain ⟨pb, po, rfl, hcell⟩ := hR.2 h0
    refine wpList_append_own w hgd s x t ho base e i z 1 bytes ht hi hz hsize hby hzs (by decide) v n xs hs hown ⟨pb, po, none⟩ m c ys hx hR.1 (fun j u hj => ?_) h1 h63 hbytes hbase (fun v' w' h2 h3 _ => h v' w' h2 h3)
    have := hcell j u hj
    rw [show (⟨pb, po, none⟩ : Addr).add j = ⟨pb, po + j, none⟩ by unfold Addr.add; split <;> simp_all]
    exact this
end
end Go.Proofs.YtjhlpkhfdghngaaGreatDoor
