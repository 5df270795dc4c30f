/- What the specification's Implies and Within return. -/
import Derived.Test.YtocgkpdolgnbgaaGreatDoorMGJ
import Derived.Test.YtocgkpdolgnbgaaGreatDoorMRef19
import Derived.Test.YtocgkpdolgnbgaaGreatDoorProg
import Derived.WalkKit
import Derived.WalkSpells
import Derived.WalkLawsBesides
import Derived.Below
import Derived.Deep.QuietTactic
import Derived.BigQuiet
import Derived.Lib.QuietBelow
import Derived.Lib.Strings
import Derived.Lib.Hide
import Derived.Deep.RegionWith
import Derived.Deep.RegionHeld3
import Derived.Lib.IndexBytes
namespace Go.Proofs.YtocgkpdolgnbgaaGreatDoor
open Go.RowKit Go.Sort
set_option linter.unusedVariables false
set_option linter.unusedSimpArgs false
set_option maxRecDepth 100000
theorem pcov_ref (q p : ByteArray) : (coverR (patT q) (patT p)).1 = pcov q p := by
  unfold coverR pcov
  cases compileB (patT q) with
  | none => rfl
  | some x => cases compileB (patT p) <;> rfl
theorem pcov_any {q p : ByteArray} (hq : patOk q = true) (hp : patOk p = true) (h : q.size = 0) : pcov q p = true := by
  rw [pcov_iff hq hp]
  intro a _
  unfold pmA patT
  rw [if_pos h, any_comp]
  exact any_match a
def implR (a b : CondV) : Bool × Int := if validC a && validC b then (impC a b, 0) else (false, 1)
theorem three_box (w : World) (o1 o2 o3 : Obj) : (((w.alloc o1).alloc o2).alloc o3).heap[w.heap.size]? = some o1 ∧ (((w.alloc o1).alloc o2).alloc o3).heap[w.heap.size + 1]? = some o2 ∧ (((w.alloc o1).alloc o2).alloc o3).heap[w.heap.size + 1 + 1]? = some o3 := by
  refine ⟨(Below.heap_alloc _ _ _ (by simp; omega)).trans (two_box w o1 o2).1, (Below.heap_alloc _ _ _ (by simp)).trans (two_box w o1 o2).2, ?_⟩
  have := World.alloc_heap_new ((w.alloc o1).alloc o2) o3
  rwa [World.size_alloc, World.size_alloc] at this
theorem inclL_cases (a b : List ByteArray) : (b.length = 0 ∧ inclL a b = true) ∨ (0 < b.length ∧ a.length = 0 ∧ inclL a b = false) ∨ (0 < b.length ∧ 0 < a.length ∧ inclL a b = a.all fun x => hasL b x) := by
  unfold inclL
  cases b with
  | nil => exact .inl ⟨rfl, rfl⟩
  | cons y l =>
    cases a with
    | nil => exact .inr (.inl ⟨by simp, rfl, rfl⟩)
    | cons x r => exact .inr (.inr ⟨by simp, by simp, rfl⟩)
set_option maxHeartbeats 16000000 in
theorem rImplies_any (a b : CondV) (m1 m2 : CondMem) (w : World) (hRa : CondReads w a m1) (hRb : CondReads w b m2) (hfa : CondFits a) (hfb : CondFits b) :
    Calls Tryz.prog 16 #[CondMem.val a m1, CondMem.val b m2] w (Ret w (knownV (implR a b).1 (implR a b).2)) := by
  have c1 := fun W (hb : Below w.heap.size w W) => rValid21_any a m1 W (hRa.keep hb) hfa.p hfa.cl hfa.co hfa.n1 hfa.n2 hfa.n3
  have c2 := fun W (hb : Below w.heap.size w W) => rValid21_any b m2 W (hRb.keep hb) hfb.p hfb.cl hfb.co hfb.n1 hfb.n2 hfb.n3
  have hps : (patT a.pat).size ≤ 100000 := by unfold patT; split; exact (by decide); exact hfa.p
  have c3 := fun W => rCovers2_any (patT b.pat) (patT a.pat) W (by unfold patT; split; exact (by decide); exact hfb.p) hps
  rw [pcov_ref] at c3
  generalize (coverR (patT b.pat) (patT a.pat)).2 = er at c3
  have c4 := fun W (hb : Below w.heap.size w W) => rWithin_any m1.A a.cl.length m1.ca m2.A b.cl.length m2.ca a.cl b.cl W (hRa.cl.keep hb) (hRb.cl.keep hb) (by have := hfa.n1; omega) (by have := hfb.n1; omega)
  have c5 := fun W (hb : Below w.heap.size w W) => rWithin_any m1.B a.co.length m1.cb m2.B b.co.length m2.cb a.co b.co W (hRa.co.keep hb) (hRb.co.keep hb) (by have := hfa.n2; omega) (by have := hfb.n2; omega)
  have c6 := fun W (hb : Below w.heap.size w W) => rSites_any m1.S a.si.length m1.cs m2.S b.si.length m2.cs a.si b.si W (hRa.si.keep hb) (hRb.si.keep hb) (by have := hfa.n3; omega) (by have := hfb.n3; omega)
  have i1 := inclL_cases a.cl b.cl
  have i2 := inclL_cases a.co b.co
  have hs : validC a = true → sitesR a.si b.si = inclS a.si b.si := fun h => sitesR_incl ((valid_iff a).1 h).si
  have hp0 : validC a = true → validC b = true → b.pat.size = 0 → pcov b.pat a.pat = true := fun h1 h2 h => pcov_any ((valid_iff b).1 h2).pat ((valid_iff a).1 h1).pat h
  have hemp : ∀ s : ByteArray, (s.size = 0 ∧ s.toList.isEmpty = true ∧ s.toList = []) ∨ (s.size ≠ 0 ∧ s.toList.isEmpty = false ∧ ¬ s.toList = []) := by
    intro s
    by_cases h : s.size = 0
    · have e : s.toList = [] := by rw [Lib.toList_data]; exact List.eq_nil_of_length_eq_zero (by rw [← Lib.size_eq]; exact h)
      exact .inl ⟨h, by rw [e]; rfl, e⟩
    · have e : ¬ s.toList = [] := fun e => h (by rw [Lib.toList_data] at e; rw [Lib.size_eq, e]; rfl)
      exact .inr ⟨h, by simpa using e, e⟩
  have hpe : (b.pat.size = 0 ∧ b.pat.toList.isEmpty = true ∧ b.pat.toList = []) ∨ (b.pat.size ≠ 0 ∧ b.pat.toList.isEmpty = false ∧ ¬ b.pat.toList = [] ∧ patT b.pat = b.pat) := by
    rcases hemp b.pat with h | ⟨h, e, e2⟩
    · exact .inl h
    · exact .inr ⟨h, e, e2, by unfold patT; rw [if_neg h]⟩
  have hpa : (a.pat.toList.isEmpty = true ∧ a.pat.toList = [] ∧ patT a.pat = ⟨#[42, 47, 42, 42]⟩) ∨ (a.pat.toList.isEmpty = false ∧ ¬ a.pat.toList = [] ∧ patT a.pat = a.pat) := by
    rcases hemp a.pat with ⟨h, e, e2⟩ | ⟨h, e, e2⟩
    · exact .inl ⟨e, e2, by unfold patT; rw [if_pos h]⟩
    · exact .inr ⟨e, e2, by unfold patT; rw [if_neg h]⟩
  clear hemp
  obtain ⟨VB, hVB⟩ : ∃ V, V = (implR a b).1 := ⟨_, rfl⟩
  obtain ⟨VE, hVE⟩ : ∃ V, V = (implR a b).2 := ⟨_, rfl⟩
  rw [← hVB, ← hVE]
  show Calls Tryz.prog 16 _ w (Ret w (.agg #[.bool VB, .int .i64 VE]))
  unfold implR impC at hVB
  unfold implR at hVE
  generalize validC a = va at *
  generalize validC b = vb at *
  generalize pcov b.pat a.pat = pc at *
  generalize inclL a.cl b.cl = n1 at *
  generalize inclL a.co b.co = n2 at *
  generalize inclS a.si b.si = n3 at *
  generalize sitesR a.si b.si = n4 at *
  generalize (a.cl.all fun x => hasL b.cl x) = e1 at *
  generalize (a.co.all fun x => hasL b.co x) = e2 at *
  obtain ⟨fa, ta, pa, cla, coa, sia, ua⟩ := a
  obtain ⟨fb, tb, pb, clb, cob, sib, ub⟩ := b
  obtain ⟨A, ca, B, cb, S, cs⟩ := m1
  obtain ⟨A', ca', B', cb', S', cs'⟩ := m2
  unfold CondMem.val at c1 c2 ⊢
  dsimp only at c1 c2 c3 c4 c5 c6 i1 i2 hp0 hpe hpa hVB hVE ⊢
  generalize cla.length = na at *
  generalize coa.length = nb at *
  generalize sia.length = ns at *
  generalize clb.length = ma at *
  generalize cob.length = mb at *
  generalize sib.length = ms at *
  have C1 := Lib.hid c1; have C2 := Lib.hid c2; have C3 := Lib.hid c3; have C4 := Lib.hid c4; have C5 := Lib.hid c5; have C6 := Lib.hid c6
  have I1 := Lib.hid i1; have I2 := Lib.hid i2; have HS := Lib.hid hs; have HP0 := Lib.hid hp0; have HPE := Lib.hid hpe; have HPA := Lib.hid hpa; have HVB := Lib.hid hVB; have HVE := Lib.hid hVE
  clear c1 c2 c3 c4 c5 c6 i1 i2 hs hp0 hpe hpa hVB hVE hRa hRb hfa hfb hps
  go_enter Tryz.func16, Tryz.ntmps16
  go_upto_region 1 with fail
  obtain ⟨W0, hW0⟩ : ∃ W0, W0 = ((w.alloc (.cells #[.int .i64 fa, .int .i64 ta, .string pa, .slice A na ca, .slice B nb cb, .slice S ns cs, .int .i64 ua] 25)).alloc (.cells #[.int .i64 fb, .int .i64 tb, .string pb, .slice A' ma ca', .slice B' mb cb', .slice S' ms cs', .int .i64 ub] 25)).alloc (.cells #[.bool false, .int .i64 0] 43) := ⟨_, rfl⟩
  have hbw : Below w.heap.size w W0 := by rw [hW0]; exact balloc (balloc (balloc (Below.refl _ _) _) _) _
  have hX : CBox W0 w.heap.size fa ta pa A na ca B nb cb S ns cs ua := by rw [hW0]; exact (three_box _ _ _ _).1
  have hY : CBox W0 (w.heap.size + 1) fb tb pb A' ma ca' B' mb cb' S' ms cs' ub := by rw [hW0]; exact (three_box _ _ _ _).2.1
  have hK : K21 W0 (w.heap.size + 1 + 1) false 0 := by rw [hW0]; exact (three_box _ _ _ _).2.2
  rw [← hW0]
  clear hW0
  (obtain ⟨x0, x1, x2, x3, x4, x5, x6⟩ := hX.facts; obtain ⟨y0, y1, y2, y3, y4, y5, y6⟩ := hY.facts; obtain ⟨k0, k1, g0, g1, hz⟩ := hK.facts)
  go_cut [14] (fun v wx => v = .bool (!(va && vb)) ∧ CBox wx w.heap.size fa ta pa A na ca B nb cb S ns cs ua ∧ CBox wx (w.heap.size + 1) fb tb pb A' ma ca' B' mb cb' S' ms cs' ub ∧ K21 wx (w.heap.size + 1 + 1) false 0 ∧ Below w.heap.size w wx)
  case first =>
    cases va
    · clear C2
      go_wp2_with (go_at_call 27; refine (C1.out _ (by (repeat (first | exact .refl _ _ | assumption | refine .drew ?_ | refine balloc ?_ _ | refine bdrewN ?_ _ | refine .setCell ?_ (by simp <;> omega) _ | refine bstep ?_ (by assumption))))).mono ?_; rintro e w2 ⟨rfl, hb2⟩; have hX2 := Blk.keep hX hb2; have hY2 := Blk.keep hY hb2; have hK2 := Blk.keep hK hb2; have hbw2 := bstep hbw hb2; obtain ⟨p0, p1, p2, p3, p4, p5, p6⟩ := CBox.facts hX2; obtain ⟨q0, q1, q2, q3, q4, q5, q6⟩ := CBox.facts hY2; clear C1)
      go_meet
      exact ⟨rfl, hX2, hY2, hK2, hbw2⟩
    · go_wp2_with (first | (go_at_call 27; refine (C1.out _ (by (repeat (first | exact .refl _ _ | assumption | refine .drew ?_ | refine balloc ?_ _ | refine bdrewN ?_ _ | refine .setCell ?_ (by simp <;> omega) _ | refine bstep ?_ (by assumption))))).mono ?_; rintro e w2 ⟨rfl, hb2⟩; have hX2 := Blk.keep hX hb2; have hY2 := Blk.keep hY hb2; have hK2 := Blk.keep hK hb2; have hbw2 := bstep hbw hb2; obtain ⟨p0, p1, p2, p3, p4, p5, p6⟩ := CBox.facts hX2; obtain ⟨q0, q1, q2, q3, q4, q5, q6⟩ := CBox.facts hY2; clear C1) | (go_at_call 27; refine (C2.out _ (by (repeat (first | exact .refl _ _ | assumption | refine .drew ?_ | refine balloc ?_ _ | refine bdrewN ?_ _ | refine .setCell ?_ (by simp <;> omega) _ | refine bstep ?_ (by assumption))))).mono ?_; rintro e w3 ⟨rfl, hb3⟩))
      go_meet
      exact ⟨by cases vb <;> rfl, Blk.keep hX2 hb3, Blk.keep hY2 hb3, Blk.keep hK2 hb3, bstep hbw2 hb3⟩
  case rest =>
    clear x0 x1 x2 x3 x4 x5 x6 y0 y1 y2 y3 y4 y5 y6 k0 k1 g0 g1 hz
    clear hX hY hK hbw C1 C2
    obtain ⟨rfl, hX, hY, hK, hbw⟩ := hcut
    (obtain ⟨x0, x1, x2, x3, x4, x5, x6⟩ := hX.facts; obtain ⟨y0, y1, y2, y3, y4, y5, y6⟩ := hY.facts; obtain ⟨k0, k1, g0, g1, hz⟩ := hK.facts)
    cases hvv : (va && vb)
    · obtain rfl : VB = false := by rw [HVB.out, hvv]; rfl
      obtain rfl : VE = 1 := by rw [HVE.out, hvv]; rfl
      clear HVB HVE
      go_wp2
      exact bodyPost_ret (v := .agg #[.bool false, .int .i64 1]) (by simp [results, Tryz.results16, go_sem, hz, k0, k1, g0, g1]) rfl ⟨rfl, by (repeat (first | exact .refl _ _ | assumption | refine .drew ?_ | refine balloc ?_ _ | refine bdrewN ?_ _ | refine .setCell ?_ (by simp <;> omega) _ | refine bstep ?_ (by assumption)))⟩
    obtain rfl : VE = 0 := by rw [HVE.out, hvv]; rfl
    have hvb := HVB.out
    rw [hvv, if_pos rfl] at hvb
    dsimp only at hvb
    rw [Bool.and_eq_true] at hvv
    obtain ⟨rfl, rfl⟩ := hvv
    have hs := HS.out rfl
    have hp0 := HP0.out rfl rfl
    clear HVB HVE HS HP0
    subst hs
    have HP0 := Lib.hid hp0
    clear hp0
    by_cases t1 : ta ≤ fa
    · obtain rfl : VB = true := by rw [hvb]; simp [t1]
      have d1 : decide (ta ≤ fa) = true := decide_eq_true t1
      clear hvb
      go_wp2
      (exact bodyPost_ret (v := .agg #[.bool true, .int .i64 0]) (by simp [results, Tryz.results16, go_sem, hz, k0, k1, g0, g1]) rfl ⟨rfl, by (repeat (first | exact .refl _ _ | assumption | refine .drew ?_ | refine balloc ?_ _ | refine bdrewN ?_ _ | refine .setCell ?_ (by simp <;> omega) _ | refine bstep ?_ (by assumption)))⟩)
    have d1 : decide (ta ≤ fa) = false := decide_eq_false t1
    by_cases t2 : fa < fb
    · obtain rfl : VB = false := by rw [hvb]; simp [t1]; omega
      have d2 : decide (fa < fb) = true := decide_eq_true t2
      clear hvb
      go_wp2
      (exact bodyPost_ret (v := .agg #[.bool false, .int .i64 0]) (by simp [results, Tryz.results16, go_sem, hz, k0, k1, g0, g1]) rfl ⟨rfl, by (repeat (first | exact .refl _ _ | assumption | refine .drew ?_ | refine balloc ?_ _ | refine bdrewN ?_ _ | refine .setCell ?_ (by simp <;> omega) _ | refine bstep ?_ (by assumption)))⟩)
    have d2 : decide (fa < fb) = false := decide_eq_false t2
    by_cases t3 : tb < ta
    · obtain rfl : VB = false := by rw [hvb]; simp [t1]; omega
      have d3 : decide (tb < ta) = true := decide_eq_true t3
      clear hvb
      go_wp2
      (exact bodyPost_ret (v := .agg #[.bool false, .int .i64 0]) (by simp [results, Tryz.results16, go_sem, hz, k0, k1, g0, g1]) rfl ⟨rfl, by (repeat (first | exact .refl _ _ | assumption | refine .drew ?_ | refine balloc ?_ _ | refine bdrewN ?_ _ | refine .setCell ?_ (by simp <;> omega) _ | refine bstep ?_ (by assumption)))⟩)
    have d3 : decide (tb < ta) = false := decide_eq_false t3
    have hv2 : VB = (pc && n1 && n2 && n4) := by
      rw [hvb, decide_eq_false t1, decide_eq_true (show fb ≤ fa ∧ ta ≤ tb by omega)]; simp
    have HV := Lib.hid hv2
    clear hvb hv2
    go_upto_if 37 with fail
    go_cut [] (fun wx => pc = true ∧ CBox wx w.heap.size fa ta pa A na ca B nb cb S ns cs ua ∧ CBox wx (w.heap.size + 1) fb tb pb A' ma ca' B' mb cb' S' ms cs' ub ∧ K21 wx (w.heap.size + 1 + 1) false 0 ∧ Below w.heap.size w wx)
    case first =>
      rcases HPE.out with ⟨h1, h2, h3⟩ | ⟨h1, h2, h3, h4⟩
      · obtain rfl : pc = true := HP0.out h1
        simp only [h2, Bool.not_true]
        go_wp2
        go_meet
        exact ⟨by trivial, hX, hY, hK, hbw⟩
      · rw [h4] at C3
        simp only [h2, Bool.not_false]
        rcases HPA.out with ⟨f1, f2, f3⟩ | ⟨f1, f2, f3⟩
        all_goals
          rw [f3] at C3
          cases pc
          · obtain rfl : VB = false := by rw [HV.out]; rfl
            clear HV HP0 HPE HPA
            go_wp2_with (go_at_call 51; refine (C3.out _).mono ?_; rintro e w2 ⟨rfl, hb2⟩; have hX2 := Blk.keep hX hb2; have hY2 := Blk.keep hY hb2; have hK2 : K21 w2 (w.heap.size + 1 + 1) false 0 := Blk.keep hK hb2; have hbw2 := bstep hbw hb2; clear k0 k1 g0 g1 hz; obtain ⟨k0, k1, g0, g1, hz⟩ := hK2.facts)
            (exact bodyPost_ret (v := .agg #[.bool false, .int .i64 0]) (by simp [results, Tryz.results16, go_sem, hz, k0, k1, g0, g1]) rfl ⟨rfl, by (repeat (first | exact .refl _ _ | assumption | refine .drew ?_ | refine balloc ?_ _ | refine bdrewN ?_ _ | refine .setCell ?_ (by simp <;> omega) _ | refine bstep ?_ (by assumption)))⟩)
          · clear HV HP0 HPE HPA
            go_wp2_with (go_at_call 51; refine (C3.out _).mono ?_; rintro e w2 ⟨rfl, hb2⟩; have hX2 := Blk.keep hX hb2; have hY2 := Blk.keep hY hb2; have hK2 : K21 w2 (w.heap.size + 1 + 1) false 0 := Blk.keep hK hb2; have hbw2 := bstep hbw hb2; clear k0 k1 g0 g1 hz; obtain ⟨k0, k1, g0, g1, hz⟩ := hK2.facts)
            go_meet
            exact ⟨by trivial, Blk.keep hX2 (balloc (Below.refl _ _) _), Blk.keep hY2 (balloc (Below.refl _ _) _), Blk.keep hK2 (balloc (Below.refl _ _) _), balloc hbw2 _⟩
    case rest =>
      clear x0 x1 x2 x3 x4 x5 x6 y0 y1 y2 y3 y4 y5 y6 k0 k1 g0 g1 hz
      clear hX hY hK hbw C3 HP0 HPE HPA
      obtain ⟨rfl, hX, hY, hK, hbw⟩ := hcut
      (obtain ⟨x0, x1, x2, x3, x4, x5, x6⟩ := hX.facts; obtain ⟨y0, y1, y2, y3, y4, y5, y6⟩ := hY.facts; obtain ⟨k0, k1, g0, g1, hz⟩ := hK.facts)
      go_upto_region 14 with fail
      go_cut [67] (fun v wx => v = .bool (!n1) ∧ CBox wx w.heap.size fa ta pa A na ca B nb cb S ns cs ua ∧ CBox wx (w.heap.size + 1) fb tb pb A' ma ca' B' mb cb' S' ms cs' ub ∧ K21 wx (w.heap.size + 1 + 1) false 0 ∧ Below w.heap.size w wx)
      case first =>
        rcases I1.out with ⟨h1, h2⟩ | ⟨h1, h2, h3⟩ | ⟨h1, h2, h3⟩
        · have f1 : decide ((0 : Int) < (ma : Int)) = false := decide_eq_false (by omega)
          have f1a : decide (0 < ma) = false := decide_eq_false (by omega)
          subst h2
          clear HV h1
          go_wp2
          go_meet
          exact ⟨rfl, hX, hY, hK, hbw⟩
        · have f1 : decide ((0 : Int) < (ma : Int)) = true := decide_eq_true (by omega)
          have f1a : decide (0 < ma) = true := decide_eq_true (by omega)
          have f1b : 0 < ma := by omega
          have f2 : ((na : Int) == 0) = true := by simp; omega
          subst h3
          clear HV h1 h2
          go_wp2
          go_meet
          exact ⟨rfl, hX, hY, hK, hbw⟩
        · have f1 : decide ((0 : Int) < (ma : Int)) = true := decide_eq_true (by omega)
          have f1a : decide (0 < ma) = true := decide_eq_true (by omega)
          have f1b : 0 < ma := by omega
          have f2 : ((na : Int) == 0) = false := by simp; omega
          subst h3
          clear HV I1 h1 h2
          go_wp2_with (go_at_call 52; refine (C4.out _ (by (repeat (first | exact .refl _ _ | assumption | refine .drew ?_ | refine balloc ?_ _ | refine bdrewN ?_ _ | refine .setCell ?_ (by simp <;> omega) _ | refine bstep ?_ (by assumption))))).mono ?_; rintro e w3 ⟨rfl, hb3⟩)
          go_meet
          exact ⟨rfl, Blk.keep hX hb3, Blk.keep hY hb3, Blk.keep hK hb3, bstep hbw hb3⟩
      case rest =>
        clear x0 x1 x2 x3 x4 x5 x6 y0 y1 y2 y3 y4 y5 y6 k0 k1 g0 g1 hz
        clear hX hY hK hbw C4 I1
        obtain ⟨rfl, hX, hY, hK, hbw⟩ := hcut
        (obtain ⟨x0, x1, x2, x3, x4, x5, x6⟩ := hX.facts; obtain ⟨y0, y1, y2, y3, y4, y5, y6⟩ := hY.facts; obtain ⟨k0, k1, g0, g1, hz⟩ := hK.facts)
        cases n1
        · obtain rfl : VB = false := by rw [HV.out]; rfl
          clear HV
          go_wp2
          (exact bodyPost_ret (v := .agg #[.bool false, .int .i64 0]) (by simp [results, Tryz.results16, go_sem, hz, k0, k1, g0, g1]) rfl ⟨rfl, by (repeat (first | exact .refl _ _ | assumption | refine .drew ?_ | refine balloc ?_ _ | refine bdrewN ?_ _ | refine .setCell ?_ (by simp <;> omega) _ | refine bstep ?_ (by assumption)))⟩)
        go_upto_region 16 with fail
        go_cut [86] (fun v wx => v = .bool (!n2) ∧ CBox wx w.heap.size fa ta pa A na ca B nb cb S ns cs ua ∧ CBox wx (w.heap.size + 1) fb tb pb A' ma ca' B' mb cb' S' ms cs' ub ∧ K21 wx (w.heap.size + 1 + 1) false 0 ∧ Below w.heap.size w wx)
        case first =>
          rcases I2.out with ⟨h1, h2⟩ | ⟨h1, h2, h3⟩ | ⟨h1, h2, h3⟩
          · have f1 : decide ((0 : Int) < (mb : Int)) = false := decide_eq_false (by omega)
            have f1a : decide (0 < mb) = false := decide_eq_false (by omega)
            subst h2
            clear HV h1
            go_wp2
            go_meet
            exact ⟨rfl, hX, hY, hK, hbw⟩
          · have f1 : decide ((0 : Int) < (mb : Int)) = true := decide_eq_true (by omega)
            have f1a : decide (0 < mb) = true := decide_eq_true (by omega)
            have f1b : 0 < mb := by omega
            have f2 : ((nb : Int) == 0) = true := by simp; omega
            subst h3
            clear HV h1 h2
            go_wp2
            go_meet
            exact ⟨rfl, hX, hY, hK, hbw⟩
          · have f1 : decide ((0 : Int) < (mb : Int)) = true := decide_eq_true (by omega)
            have f1a : decide (0 < mb) = true := decide_eq_true (by omega)
            have f1b : 0 < mb := by omega
            have f2 : ((nb : Int) == 0) = false := by simp; omega
            subst h3
            clear HV I2 h1 h2
            go_wp2_with (go_at_call 52; refine (C5.out _ (by (repeat (first | exact .refl _ _ | assumption | refine .drew ?_ | refine balloc ?_ _ | refine bdrewN ?_ _ | refine .setCell ?_ (by simp <;> omega) _ | refine bstep ?_ (by assumption))))).mono ?_; rintro e w4 ⟨rfl, hb4⟩)
            go_meet
            exact ⟨rfl, Blk.keep hX hb4, Blk.keep hY hb4, Blk.keep hK hb4, bstep hbw hb4⟩
        case rest =>
          clear x0 x1 x2 x3 x4 x5 x6 y0 y1 y2 y3 y4 y5 y6 k0 k1 g0 g1 hz
          clear hX hY hK hbw C5 I2
          obtain ⟨rfl, hX, hY, hK, hbw⟩ := hcut
          (obtain ⟨x0, x1, x2, x3, x4, x5, x6⟩ := hX.facts; obtain ⟨y0, y1, y2, y3, y4, y5, y6⟩ := hY.facts; obtain ⟨k0, k1, g0, g1, hz⟩ := hK.facts)
          cases n2
          · obtain rfl : VB = false := by rw [HV.out]; rfl
            clear HV
            go_wp2
            (exact bodyPost_ret (v := .agg #[.bool false, .int .i64 0]) (by simp [results, Tryz.results16, go_sem, hz, k0, k1, g0, g1]) rfl ⟨rfl, by (repeat (first | exact .refl _ _ | assumption | refine .drew ?_ | refine balloc ?_ _ | refine bdrewN ?_ _ | refine .setCell ?_ (by simp <;> omega) _ | refine bstep ?_ (by assumption)))⟩)
          obtain rfl : VB = n4 := HV.out
          clear HV
          go_wp2_with (go_at_call 53; refine (C6.out _ (by (repeat (first | exact .refl _ _ | assumption | refine .drew ?_ | refine balloc ?_ _ | refine bdrewN ?_ _ | refine .setCell ?_ (by simp <;> omega) _ | refine bstep ?_ (by assumption))))).mono ?_; rintro e w5 ⟨rfl, hb5⟩; have hK5 : K21 w5 (w.heap.size + 1 + 1) false 0 := Blk.keep hK hb5; clear k0 k1 g0 g1 hz; obtain ⟨k0, k1, g0, g1, hz⟩ := hK5.facts)
          exact bodyPost_ret (v := .agg #[.bool VB, .int .i64 0]) (by simp [results, Tryz.results16, go_sem, hz, k0, k1, g0, g1]) rfl ⟨rfl, by (repeat (first | exact .refl _ _ | assumption | refine .drew ?_ | refine balloc ?_ _ | refine bdrewN ?_ _ | refine .setCell ?_ (by simp <;> omega) _ | refine bstep ?_ (by assumption)))⟩
end Go.Proofs.YtocgkpdolgnbgaaGreatDoor
