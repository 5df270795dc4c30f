/- What 'Covers' returns. -/
import Derived.Test.YtiglpecjpncclaaGreatDoorMeets
import Derived.Test.YtiglpecjpncclaaGreatDoorPlainX
import Derived.Deep.DeepCutAuto
import Derived.Deep.RegionHeld3
import Derived.Test.YtiglpecjpncclaaGreatDoorProg
import Derived.WalkKit
import Derived.WalkSpells
import Derived.WalkLawsBesides
import Derived.Below
import Derived.Deep.QuietTactic
import Derived.BigQuiet
import Derived.Lib.QuietBelow
import Derived.Lib.Strings
import Derived.Lib.Hide
import Derived.Deep.RegionWith
import Derived.Deep.RegionHeld3
import Derived.Lib.IndexBytes
namespace Go.Proofs.YtiglpecjpncclaaGreatDoor
open Go.RowKit Go.Sort
set_option linter.unusedVariables false
set_option linter.unusedSimpArgs false
set_option maxRecDepth 100000
def coversV : Option Pat → Option Pat → Value
  | some x, some y => .tuple #[.bool (coverB x y), .string (if coverB x y then ⟨#[]⟩ else coverW x y), .int .i64 0]
  | _, _ => .tuple #[.bool false, .string ⟨#[]⟩, .int .i64 1]
theorem ownsRow_base {w : World} {b b' : Nat} {e : TypeId} {size n : Nat} {v : Value} {xs : List Value} (h : w.ownsRow b e size v n xs) (hb : b' ≤ b) : w.ownsRow b' e size v n xs := by
  obtain ⟨hl, h2⟩ := h
  refine ⟨hl, ?_⟩
  rcases h2 with h0 | ⟨g, cap, cur, hv, hg, r⟩
  · exact .inl h0
  · exact .inr ⟨g, cap, cur, hv, Nat.le_trans hb hg, r⟩
/-- A cell of a slice is set. -/
theorem Reads.put {w : World} {g n k : Nat} {vs : List Value} (h : Reads w 1 (some ⟨g, 0, none⟩) n vs) (hk : k < n) (v : Value) : Reads (w.setCell ⟨g, 0 + k, none⟩ v) 1 (some ⟨g, 0, none⟩) n (vs.set k v) := by
  refine ⟨by simpa using h.1, fun hn => ⟨g, 0, rfl, fun j u hu => ?_⟩⟩
  obtain ⟨b, o, he, hc⟩ := h.2 hn
  injection he with he; injection he with h1 h2 _; subst h1; subst h2
  by_cases e : k = j
  · subst e
    have hl : k < vs.length := by have := h.1; omega
    rw [List.getElem?_set_self hl] at hu
    injection hu with hu; subst hu
    exact World.cell?_setCell_same w _ v (hc k _ (List.getElem?_eq_getElem hl))
  · rw [List.getElem?_set_ne e] at hu
    exact (World.cell?_setCell_other w _ ⟨g, 0 + j, none⟩ v (by intro h; injection h with _ h _; omega)).trans (hc j u hu)
theorem badL_at : ∀ (k : Nat) (xs ys : List Part) (a b : Part), xs[k]? = some a → ys[k]? = some b → (∀ j < k, ∀ p q, xs[j]? = some p → ys[j]? = some q → coversP p.kind p.text q.kind q.text = true) → coversP a.kind a.text b.kind b.text = false →
    badL xs ys = some ((wordsL ys).set k (withoutP b.kind b.text a.kind a.text))
  | _, [], ys, a, b, h, _, _, _ => by simp at h
  | _, _ :: _, [], a, b, _, h, _, _ => by simp at h
  | 0, x :: xs, y :: ys, a, b, h1, h2, _, h4 => by
    simp at h1 h2
    subst h1; subst h2
    rw [badL, if_neg (by rw [h4]; decide)]
    rfl
  | k + 1, x :: xs, y :: ys, a, b, h1, h2, h3, h4 => by
    have := h3 0 (by omega) x y rfl rfl
    rw [badL, if_pos this, badL_at k xs ys a b (by simpa using h1) (by simpa using h2) (fun j hj p q hp hq => h3 (j + 1) (by omega) p q (by simpa using hp) (by simpa using hq)) h4]
    rfl
theorem coverL_false : ∀ (xs ys : List Part), badL xs ys ≠ none → coverL xs ys = false
  | [], ys, h => absurd rfl h
  | _ :: _, [], _ => rfl
  | a :: xs, b :: ys, h => by
    rw [badL] at h
    rw [coverL]
    cases hc : coversP a.kind a.text b.kind b.text
    · rfl
    · rw [hc] at h
      simp only [if_true, ne_eq, Option.map_eq_none_iff] at h
      rw [Bool.true_and]
      exact coverL_false xs ys h
theorem coverL_all : ∀ (xs ys : List Part), xs.length ≤ ys.length → (∀ j < xs.length, ∀ p q, xs[j]? = some p → ys[j]? = some q → coversP p.kind p.text q.kind q.text = true) → coverL xs ys = true
  | [], _, _, _ => rfl
  | _ :: _, [], h, _ => by simp at h
  | a :: xs, b :: ys, h, h2 => by
    rw [coverL, h2 0 (by simp) a b rfl rfl, Bool.true_and]
    exact coverL_all xs ys (by simpa using h) fun j hj p q hp hq => h2 (j + 1) (by simpa using hj) p q (by simpa using hp) (by simpa using hq)
set_option maxHeartbeats 4000000 in
theorem covers_any2 (p q : ByteArray) (w : World) (hp : p.size ≤ 100000) (hq : q.size ≤ 100000) (hE : Env w) : Calls Tryz.prog 27 #[.string p, .string q] w (Ret w (coversV (compileB p) (compileB q))) := by
  have c1 := fun W h => compile_any p W hp h
  have c2 := fun W h => compile_any q W hq h
  have g1 := compile_good p hp
  have g2 := compile_good q hq
  generalize compileB p = r1 at *
  generalize compileB q = r2 at *
  have hbad : r1.isSome = false ∨ r2.isSome = false → Calls Tryz.prog 27 #[.string p, .string q] w (Ret w (.tuple #[.bool false, .string ⟨#[]⟩, .int .i64 1])) := by
    intro hbad
    have H1 := Lib.hid (fun W h => (c1 W h).mono fun e w' k => compPost_any k)
    have H2 := Lib.hid (fun W h => (c2 W h).mono fun e w' k => compPost_any k)
    clear c1 c2 g1 g2
    generalize r1.isSome = o1 at *
    generalize r2.isSome = o2 at *
    clear r1 r2
    cases o1
    · clear hbad
      go_enter Tryz.func27, Tryz.ntmps27
      go_wp2_with (first | (go_at_call 69; refine (H1.out _ hE).mono ?_; rintro e w1 ⟨hb1, k1, t1, A1, n1, d1, b1, rfl⟩; have hE1 := Env.keep hE hb1; clear hE) | (go_at_call 69; refine (H2.out _ (Env.keep hE1 (balloc (Below.refl _ _) _))).mono ?_; rintro e w2 ⟨hb2, k2, t2, A2, n2, d2, b2, rfl⟩; clear hE1))
      go_ret3
      exact ⟨rfl, by (repeat (first | exact Below.refl _ _ | assumption | refine Below.drew ?_ | refine balloc ?_ _ | refine bdrewN ?_ _ | refine Below.setCell ?_ (by first | (simp; done) | (simp; omega)) _ | refine bstep ?_ (by assumption)))⟩
    · obtain rfl : o2 = false := by simpa using hbad
      clear hbad
      go_enter Tryz.func27, Tryz.ntmps27
      go_wp2_with (first | (go_at_call 69; refine (H1.out _ hE).mono ?_; rintro e w1 ⟨hb1, k1, t1, A1, n1, d1, b1, rfl⟩; have hE1 := Env.keep hE hb1; clear hE) | (go_at_call 69; refine (H2.out _ (Env.keep hE1 (balloc (Below.refl _ _) _))).mono ?_; rintro e w2 ⟨hb2, k2, t2, A2, n2, d2, b2, rfl⟩; clear hE1))
      go_ret3
      exact ⟨rfl, by (repeat (first | exact Below.refl _ _ | assumption | refine Below.drew ?_ | refine balloc ?_ _ | refine bdrewN ?_ _ | refine Below.setCell ?_ (by first | (simp; done) | (simp; omega)) _ | refine bstep ?_ (by assumption)))⟩
  cases r1 with
  | none => exact hbad (.inl rfl)
  | some x =>
    cases r2 with
    | none => exact hbad (.inr rfl)
    | some y =>
      clear hbad
      have gx := g1 x rfl
      have gy := g2 y rfl
      clear g1 g2
      obtain ⟨V, hV⟩ : ∃ V, V = coversV (some x) (some y) := ⟨_, rfl⟩
      rw [← hV]
      unfold coversV coverB coverW exText at hV
      obtain ⟨⟨xk, xt⟩, xs, xl⟩ := x
      obtain ⟨⟨yk, yt⟩, ys, yl⟩ := y
      obtain ⟨gx1, gx2, gx3, gx4⟩ := gx
      obtain ⟨gy1, gy2, gy3, gy4⟩ := gy
      dsimp only at *
      have cW := fun W => with_any yk yt ⟨#[97]⟩ W (by decide) (by omega) gy1
      have cL := fun A c W h => words_any yk yt A ys.length c yl ys W h gy3 (by omega)
      have cV := fun W => covers_any xk yk xt yt W (by omega) (by omega) gx1 gy1
      have cO := fun W => without_any yk xk yt xt W (by omega) (by omega) gy1 gx1
      have hc0 := withP_le (k := yk) (b := ⟨#[97]⟩) gy2 (Nat.le_refl _)
      have hwo : (withoutP yk yt xk xt).size ≤ 200000 := by unfold withoutP; split <;> exact withP_le gy2 (by decide)
      have hws := wordsL_le gy3
      have hwl : (wordsL ys).length = ys.length := by simp [wordsL]
      have cX1 := fun A c W h => example_any (withoutP yk yt xk xt) A ys.length c (wordsL ys) W h (by omega) hwo hws
      have cX2 := fun A n c (zs : List ByteArray) W h (hn : n ≤ 40) hz => example_any (withP yk yt ⟨#[97]⟩) A n c zs W h (by omega) hc0 hz
      generalize hcc0 : withP yk yt ⟨#[97]⟩ = c0 at *
      generalize hcov : coversP xk xt yk yt = cv at *
      generalize withoutP yk yt xk xt = co at *
      obtain ⟨n, hn⟩ : ∃ n, n = xs.length := ⟨_, rfl⟩
      obtain ⟨m, hm⟩ : ∃ m, m = ys.length := ⟨_, rfl⟩
      rw [← hn] at gx4
      rw [← hm] at gy4 hwl
      rw [← hm] at cL cX1
      rw [← hn, ← hm] at hV
      have HV := Lib.hid hV
      have H1 : Hid (∀ W, Env W → Calls Tryz.prog 69 #[.string p] W fun e w' => Below W.heap.size W w' ∧ ∃ A c, e = .returned (.tuple #[.agg #[.int .i64 xk, .string xt, .slice A n c, .bool xl], .bool true]) ∧ Reads w' 2 A n (partCells xs)) := Lib.hid (fun W h => by rw [hn]; exact (c1 W h).mono (by rintro e w' ⟨hb, A, c, rfl, hR, _⟩; exact ⟨hb, A, c, rfl, hR⟩))
      have H2 : Hid (∀ W, Env W → Calls Tryz.prog 69 #[.string q] W fun e w' => Below W.heap.size W w' ∧ ∃ A c, e = .returned (.tuple #[.agg #[.int .i64 yk, .string yt, .slice A m c, .bool yl], .bool true]) ∧ Reads w' 2 A m (partCells ys)) := Lib.hid (fun W h => by rw [hm]; exact (c2 W h).mono (by rintro e w' ⟨hb, A, c, rfl, hR, _⟩; exact ⟨hb, A, c, rfl, hR⟩))
      have HN := Lib.hid hn
      have HM := Lib.hid hm
      have HW := Lib.hid cW
      have HL := Lib.hid cL
      have HCV := Lib.hid cV
      have HO := Lib.hid cO
      have HX1 := Lib.hid cX1
      have HX2 := Lib.hid cX2
      have HGX := Lib.hid gx3
      have HGY := Lib.hid gy3
      have HWS := Lib.hid hws
      clear c1 c2 hn hm cW cL cV cO cX1 cX2 gx3 gy3 hV hws hcc0 hcov hwl hwo hc0
      go_enter Tryz.func27, Tryz.ntmps27
      go_upto_region 5 with (first | (go_at_call 69; refine (H1.out _ hE).mono ?_; rintro e w1 ⟨hb1, A1, d1, rfl, hR1⟩; have hE1 := Env.keep hE hb1; have HR1 := Lib.hid hR1; clear hE hR1) | (go_at_call 69; refine (H2.out _ (Env.keep hE1 (balloc (Below.refl _ _) _))).mono ?_; rintro e w2 ⟨hb2, A2, d2, rfl, hR2⟩; have hX2 : PBox w2 w1.heap.size xk xt (.slice A1 n d1) xl := (hb2.block w1.heap.size (by simp)).trans (World.alloc_heap_new _ _); have hz12 : w1.heap.size < w2.heap.size := Blk.lt hX2; have HR2 := Lib.hid hR2; have HR1' := Lib.hid (HR1.out.keep (blater _ hb2)); clear hE1 hR2 HR1))
      obtain ⟨W2, hW2⟩ : ∃ W2, W2 = w2.alloc (.cells #[.int .i64 yk, .string yt, .slice A2 m d2, .bool yl] 100) := ⟨_, rfl⟩
      have hY3 : PBox W2 w2.heap.size yk yt (.slice A2 m d2) yl := by rw [hW2]; exact World.alloc_heap_new _ _
      have hb22 : Below w2.heap.size w2 W2 := by rw [hW2]; exact balloc (Below.refl _ _) _
      have hX3 : PBox W2 w1.heap.size xk xt (.slice A1 n d1) xl := Blk.keep hX2 hb22
      have hR23 : Reads W2 2 A2 m (partCells ys) := HR2.out.keep hb22
      have hR13 : Reads W2 2 A1 n (partCells xs) := HR1'.out.keep hb22
      have hbw : Below w.heap.size w W2 := bstep (bstep hb1 (blater _ hb2)) hb22
      have hwW2 : w.heap.size ≤ W2.heap.size := hbw.size
      have hqb0 : 0 < m → ∀ a, A2 = some a → a.block < W2.heap.size := fun h a ha => by
        obtain ⟨b, o, he, hc⟩ := hR23.2 h
        have hl : 0 < (partCells ys).length := by have := hR23.1; omega
        have := hc 0 _ (List.getElem?_eq_getElem hl)
        rw [ha] at he; injection he with he; subst he
        exact cell_lt (a := ⟨b, o + 0, none⟩) this
      have HQB := Lib.hid hqb0
      clear hqb0
      have HR23 := Lib.hid hR23; have HR13 := Lib.hid hR13
      rw [← hW2]
      have hz22 := Blk.lt hY3
      have hz21 := Blk.lt hX3
      have HX3 := Lib.hid hX3; have HY3 := Lib.hid hY3
      clear hW2 HR2 HR1' hR23 hR13 hX2
      obtain ⟨x0, x1, x2, x3, _⟩ := hX3.facts
      obtain ⟨y0, y1, y2, y3, _⟩ := hY3.facts
      clear hX3 hY3
      go_cut [11, 12] (fun s11 s12 wx => s11 = .string c0 ∧ ∃ A3 c3, s12 = .slice A3 m c3 ∧ wx.ownsRow W2.heap.size 9 1 (.slice A3 m c3) m ((wordsL ys).map .string) ∧ Below W2.heap.size W2 wx)
      case first =>
        go_region_held3 (fun w' => w'.cell? ⟨w2.heap.size, 0, none⟩ = some (.int .i64 yk) ∧ w'.cell? ⟨w2.heap.size, 1, none⟩ = some (.string yt) ∧ w'.cell? ⟨w2.heap.size, 2, none⟩ = some (.slice A2 m d2) ∧ w'.cell? ⟨w2.heap.size, 3, none⟩ = some (.bool yl) ∧ Below W2.heap.size W2 w')
          (first | exact ⟨y0, y1, y2, y3, Below.drew (Below.refl _ _)⟩ | (go_split_ands; exact ⟨cell_keep hb3 ‹_›, cell_keep hb3 ‹_›, cell_keep hb3 ‹_›, cell_keep hb3 ‹_›, bstep ‹_› hb3⟩) | (go_split_ands; exact ⟨cell_keep hb4 ‹_›, cell_keep hb4 ‹_›, cell_keep hb4 ‹_›, cell_keep hb4 ‹_›, bstep ‹_› hb4⟩))
          (first | (go_at_call 70; refine (HW.out _).mono ?_; rintro e w3 ⟨rfl, hb3⟩) | (go_at_call 71; go_split_ands; refine (HL.out _ _ _ (HR23.out.keep ‹_›)).mono ?_; rintro e w4 ⟨A3, c3, rfl, hown, hb4⟩))
        all_goals go_wp2_with fail
        all_goals go_meet
        all_goals refine ⟨rfl, A3, c3, rfl, ?_, by go_split_ands; assumption⟩
        all_goals first | exact ownsRow_base hown (by have := hb3.size; simpa using this) | exact ownsRow_keep (ownsRow_base hown (Nat.le_refl _)) hb3
      case rest =>
        obtain ⟨rfl, A3, c3, rfl, hown, hbc⟩ := hcut
        clear HW HL x0 x1 x2 x3 y0 y1 y2 y3
        have hXc : PBox wc w1.heap.size xk xt (.slice A1 n d1) xl := Blk.keep HX3.out hbc
        have hYc : PBox wc w2.heap.size yk yt (.slice A2 m d2) yl := Blk.keep HY3.out hbc
        obtain ⟨x0, x1, x2, x3, _⟩ := hXc.facts
        obtain ⟨y0, y1, y2, y3, _⟩ := hYc.facts
        have hzc1 := Blk.lt hXc
        have hzc2 := Blk.lt hYc
        have hbwc : Below w.heap.size w wc := bstep hbw hbc
        have HRW := Lib.hid (Reads.of_own hown)
        have HOWN := Lib.hid hown
        have HXC := Lib.hid hXc; have HYC := Lib.hid hYc
        clear hown hXc hYc HX3 HY3
        cases cv
        · have hVe : V = .tuple #[.bool false, .string (joinS (co :: wordsL ys)), .int .i64 0] := by rw [HV.out]; simp
          clear HV
          subst hVe
          generalize joinS (co :: wordsL ys) = V2 at *
          go_wp2_with (first | (go_at_call 72; refine (HCV.out _).mono ?_; rintro e w5 ⟨rfl, hb5⟩; obtain ⟨hc5, hf5⟩ := bcell hb5) | (go_at_call 74; refine (HO.out _).mono ?_; rintro e w6 ⟨rfl, hb6⟩) | (go_at_call 73; refine (HX1.out _ _ _ ((HRW.out.keep hb5).keep hb6)).mono ?_; rintro e w7 ⟨rfl, hb7⟩))
          go_ret3
          exact ⟨rfl, by (repeat (first | exact Below.refl _ _ | assumption | refine Below.drew ?_ | refine balloc ?_ _ | refine bdrewN ?_ _ | refine Below.setCell ?_ (by first | (simp; done) | (simp; omega)) _ | refine bstep ?_ (by assumption)))⟩
        · simp only [Bool.true_and, Bool.not_true, Bool.false_eq_true, if_false] at HV
          go_upto_region 8 with (go_at_call 72; refine (HCV.out _).mono ?_; rintro e w5 ⟨rfl, hb5⟩; have hX5 : PBox w5 w1.heap.size xk xt (.slice A1 n d1) xl := Blk.keep HXC.out hb5; have hY5 : PBox w5 w2.heap.size yk yt (.slice A2 m d2) yl := Blk.keep HYC.out hb5; clear x0 x1 x2 x3 y0 y1 y2 y3; obtain ⟨x0, x1, x2, x3, _⟩ := hX5.facts; obtain ⟨y0, y1, y2, y3, _⟩ := hY5.facts)
          go_cut [13, 14] (fun s13 s14 wx => s13 = .int .i64 n ∧ s14 = .int .i64 m ∧ Below w5.heap.size w5 wx)
          case first =>
            go_quiet (fail)
            go_wp2_with fail
            go_meet
            exact ⟨rfl, rfl, by (repeat (first | exact Below.refl _ _ | assumption | refine Below.drew ?_ | refine balloc ?_ _ | refine bdrewN ?_ _ | refine Below.setCell ?_ (by first | (simp; done) | (simp; omega)) _ | refine bstep ?_ (by assumption)))⟩
          case rest =>
            obtain ⟨rfl, rfl, hbd⟩ := hcut
            have hXd : PBox wc w1.heap.size xk xt (.slice A1 n d1) xl := Blk.keep hX5 hbd
            have hYd : PBox wc w2.heap.size yk yt (.slice A2 m d2) yl := Blk.keep hY5 hbd
            clear hX5 hY5 x0 x1 x2 x3 y0 y1 y2 y3
            obtain ⟨x0, x1, x2, x3, _⟩ := hXd.facts
            obtain ⟨y0, y1, y2, y3, _⟩ := hYd.facts
            have hzd1 := Blk.lt hXd
            have hzd2 := Blk.lt hYd
            have hbwd : Below w.heap.size w wc := bstep (bstep hbwc hb5) hbd
            have hown := ownsRow_keep (ownsRow_keep HOWN.out hb5) hbd
            have HRD := Lib.hid (Reads.of_own hown)
            have HOD := Lib.hid hown
            have hs2 : W2.heap.size ≤ wc.heap.size := by have h1 := hbc.size; have h2 := hb5.size; have h3 := hbd.size; omega
            have hRx : Reads wc 2 A1 n (partCells xs) := ((HR13.out.keep hbc).keep hb5).keep hbd
            have hRy : Reads wc 2 A2 m (partCells ys) := ((HR23.out.keep hbc).keep hb5).keep hbd
            have HRX := Lib.hid hRx; have HRY := Lib.hid hRy
            have HXD := Lib.hid hXd; have HYD := Lib.hid hYd
            clear HXC HYC HRW HOWN hown hXd hYd hRx hRy HR13 HR23 hbw hbwc hb22 hbc hb5 hbd HCV HO HX1
            have hw0 : ∀ x ∈ wordsL ys, x.size ≤ 200000 := HWS.out
            have HXE := Lib.hid (fun A c W h => HX2.out A m c (wordsL ys) W h (by omega) hw0)
            clear hw0
            by_cases hmn : m < n
            · have hd : decide (m < n) = true := decide_eq_true hmn
              have hVe : V = .tuple #[.bool false, .string (joinS (c0 :: wordsL ys)), .int .i64 0] := by rw [HV.out, hd]; simp
              clear HV
              subst hVe
              generalize joinS (c0 :: wordsL ys) = V2 at *
              go_wp2_with (go_at_call 73; refine (HXE.out _ _ _ HRD.out).mono ?_; rintro e w7 ⟨rfl, hb7⟩)
              go_ret3
              exact ⟨rfl, by (repeat (first | exact Below.refl _ _ | assumption | refine Below.drew ?_ | refine balloc ?_ _ | refine bdrewN ?_ _ | refine Below.setCell ?_ (by first | (simp; done) | (simp; omega)) _ | refine bstep ?_ (by assumption)))⟩
            have hd : decide (m < n) = false := decide_eq_false hmn
            by_cases hnm : n < m ∧ xl = false
            · obtain ⟨hnm, rfl⟩ := hnm
              have hd2 : decide (n < m) = true := decide_eq_true hnm
              have hVe : V = .tuple #[.bool false, .string (joinS (c0 :: wordsL ys)), .int .i64 0] := by rw [HV.out, hd, hd2]; simp
              clear HV
              subst hVe
              generalize joinS (c0 :: wordsL ys) = V2 at *
              go_wp2_with (go_at_call 73; refine (HXE.out _ _ _ HRD.out).mono ?_; rintro e w7 ⟨rfl, hb7⟩)
              go_ret3
              exact ⟨rfl, by (repeat (first | exact Below.refl _ _ | assumption | refine Below.drew ?_ | refine balloc ?_ _ | refine bdrewN ?_ _ | refine Below.setCell ?_ (by first | (simp; done) | (simp; omega)) _ | refine bstep ?_ (by assumption)))⟩
            have hd3 : (decide (n < m) && !xl) = false := by cases xl <;> simp at hnm ⊢; omega
            have hxx : ¬ n < m ∨ (n < m ∧ xl = true) := by cases xl <;> simp at hnm ⊢ <;> omega
            have HXX := Lib.hid hxx
            have HD3 := Lib.hid hd3
            clear hnm hd3 hxx
            go_upto_if 57 with fail
            obtain ⟨wd, hwd⟩ : ∃ wd : World, wd = wc := ⟨_, rfl⟩
            go_cut [57] (fun c wx => c = .bool false ∧ wx = wd)
            case first =>
              rcases HXX.out with h | ⟨h, e⟩
              · have hd2 : decide (n < m) = false := decide_eq_false h
                go_wp2_with fail
                go_meet
                exact ⟨rfl, hwd.symm⟩
              · subst e
                have hd2 : decide (n < m) = true := decide_eq_true h
                go_wp2_with fail
                go_meet
                exact ⟨rfl, hwd.symm⟩
            case rest =>
              obtain ⟨rfl, hcw⟩ := hcut
              rw [hwd] at hcw
              subst hcw
              clear hwd wd
              by_cases hcc : yl = true ∧ xl = false
              · obtain ⟨rfl, rfl⟩ := hcc
                have hVe : V = .tuple #[.bool false, .string (joinS (c0 :: (wordsL ys ++ [⟨#[97]⟩]))), .int .i64 0] := by
                  have h3 := HD3.out
                  rw [HV.out, hd, h3]; simp
                clear HV
                subst hVe
                have hw1 : ∀ x ∈ wordsL ys ++ [(⟨#[97]⟩ : ByteArray)], x.size ≤ 200000 := by
                  intro x hx
                  rcases List.mem_append.1 hx with hx | hx
                  · exact HWS.out x hx
                  · rw [List.mem_singleton.1 hx]; decide
                have HXF := Lib.hid (fun A c W h => HX2.out A (m + 1) c (wordsL ys ++ [⟨#[97]⟩]) W h (by omega) hw1)
                clear hw1 HXE HX2
                generalize joinS (c0 :: (wordsL ys ++ [⟨#[97]⟩])) = V2 at *
                obtain ⟨i0, hi0, hz0, hz1, hz2⟩ := info_parts infoStr
                have HI : Hid ((Tryz.prog.info? 9 = some i0) ∧ i0.zero = some (.string ⟨#[]⟩) ∧ i0.size = 1 ∧ i0.bytes = 16) := Lib.hid ⟨hi0, hz0, hz1, hz2⟩
                clear hi0 hz0 hz1 hz2
                go_wp2_with (first | (at_builtin; refine wpList_append_own _ rfl _ _ 22 rfl W2.heap.size 9 i0 (.string ⟨#[]⟩) 1 16 Tryz.underlying22 HI.out.1 HI.out.2.1 HI.out.2.2.1 HI.out.2.2.2 rfl (by decide) _ _ _ rfl (HOD.out.alloc _) ⟨wc.heap.size, 0, none⟩ 1 1 [.string ⟨#[97]⟩] rfl rfl (cell_one_new _ _ _) (by simp [Value.oneCell']) (by unfold maxLen; omega) (by omega) (by simp; omega) ?_; intro v' w8 hown' hgrow _; obtain ⟨g', cap', rfl⟩ := ownsRow_succ hown'; have hR8 : Reads w8 1 (some ⟨g', 0, none⟩) (m + 1) ((wordsL ys ++ [(⟨#[97]⟩ : ByteArray)]).map Value.string) := (by have hR9 := Reads.of_own hown'; rw [show (wordsL ys ++ [(⟨#[97]⟩ : ByteArray)]).map Value.string = (wordsL ys).map Value.string ++ [.string ⟨#[97]⟩] by simp]; exact hR9)) | (go_at_call 73; refine (HXF.out _ _ _ hR8).mono ?_; rintro e w7 ⟨rfl, hb7⟩))
                go_ret3
                have hb8 : Below w.heap.size w w8 := (hbwd.alloc hbwd.size _).grown hgrow (by have := hbwd.size; simp; omega) (fun r e => Nat.le_trans hwW2 (ownsRow_block HOD.out r e))
                exact ⟨rfl, by (repeat (first | exact Below.refl _ _ | assumption | refine Below.drew ?_ | refine balloc ?_ _ | refine bdrewN ?_ _ | refine Below.setCell ?_ (by first | (simp; done) | (simp; omega)) _ | refine bstep ?_ (by assumption)))⟩
              · have hd4 : (yl && !xl) = false := by cases yl <;> cases xl <;> simp at hcc ⊢
                have HCC := Lib.hid hcc
                have HD4 := Lib.hid hd4
                clear hcc hd4
                go_upto_region 12 with fail
                obtain ⟨wd, hwd⟩ : ∃ wd : World, wd = wc := ⟨_, rfl⟩
                go_cut [72] (fun c wx => c = .bool false ∧ wx = wd)
                case first =>
                  cases yl
                  · go_wp2_with fail
                    go_meet
                    exact ⟨rfl, hwd.symm⟩
                  · cases xl
                    · exact absurd ⟨rfl, rfl⟩ HCC.out
                    · go_wp2_with fail
                      go_meet
                      exact ⟨rfl, hwd.symm⟩
                case rest =>
                  obtain ⟨rfl, hcw⟩ := hcut
                  rw [hwd] at hcw
                  subst hcw
                  clear hwd wd
                  go_wp2_with fail
                  have hnm2 : n ≤ m := by omega
                  have HV2 : Hid (V = .tuple #[.bool (coverL xs ys), .string (if coverL xs ys = true then ⟨#[]⟩ else match badL xs ys with | some ws => joinS (c0 :: ws) | none => ⟨#[]⟩), .int .i64 0]) := Lib.hid (by
                    have h3 := HD3.out; have h4 := HD4.out
                    rw [HV.out, hd, h3, h4]; simp; cases badL xs ys <;> rfl)
                  clear HV HCC HD3 HD4 HXX HXE
                  go_loopw [88] (fun vi wr => ∃ k : Nat, (vi = .int .i64 k ∧ k ≤ n) ∧ Hid (∀ j < k, ∀ p q, xs[j]? = some p → ys[j]? = some q → coversP p.kind p.text q.kind q.text = true) ∧ Below wc.heap.size wc wr) (fun vi _ => n - (intOf vi).toNat)
                  case atStart => exact ⟨0, ⟨rfl, Nat.zero_le _⟩, Lib.hid (fun j hj => absurd hj (Nat.not_lt_zero _)), Below.refl _ _⟩
                  case round =>
                    obtain ⟨k, ⟨rfl, hk⟩, HK, hbr⟩ := hrel
                    have hYr : PBox wr w2.heap.size yk yt (.slice A2 m d2) yl := Blk.keep HYD.out hbr
                    have hzr := Blk.lt hYr
                    clear x0 x1 x2 x3 y0 y1 y2 y3
                    obtain ⟨y0, y1, y2, y3, _⟩ := hYr.facts
                    by_cases hkn : k < n
                    · obtain ⟨a, ha⟩ : ∃ p, xs[k]? = some p := ⟨_, List.getElem?_eq_getElem (by have := HN.out; omega)⟩
                      obtain ⟨b, hb⟩ : ∃ p, ys[k]? = some p := ⟨_, List.getElem?_eq_getElem (by have := HM.out; omega)⟩
                      obtain ⟨hak1, hak2⟩ := HGX.out a (List.mem_of_getElem? ha)
                      obtain ⟨hbk1, hbk2⟩ := HGY.out b (List.mem_of_getElem? hb)
                      obtain ⟨pb, po, rfl, hcell⟩ := (HRX.out.keep hbr).2 (by omega)
                      obtain ⟨qb, qo, rfl, hcell2⟩ := (HRY.out.keep hbr).2 (by omega)
                      obtain ⟨e1, e2⟩ := partCells_at xs k a ha
                      obtain ⟨e3, e4⟩ := partCells_at ys k b hb
                      have hc1 : wr.cell? ⟨pb, po + k * 2, none⟩ = _ := hcell _ _ e1
                      have hc2 : wr.cell? ⟨pb, po + k * 2 + 1, none⟩ = _ := hcell _ _ e2
                      have hc3 : wr.cell? ⟨qb, qo + k * 2, none⟩ = _ := hcell2 _ _ e3
                      have hc4 : wr.cell? ⟨qb, qo + k * 2 + 1, none⟩ = _ := hcell2 _ _ e4
                      have hlast : ∀ cvk, coversP a.kind a.text b.kind b.text = cvk → (cvk = true → ∀ j < k + 1, ∀ p q, xs[j]? = some p → ys[j]? = some q → coversP p.kind p.text q.kind q.text = true) ∧ (cvk = false → badL xs ys = some ((wordsL ys).set k (withoutP b.kind b.text a.kind a.text))) := by
                        intro cvk hcv
                        constructor
                        · rintro rfl j hj p q hp hq
                          by_cases e : j = k
                          · subst e
                            rw [ha] at hp; rw [hb] at hq
                            injection hp with hp; injection hq with hq; subst hp; subst hq
                            exact hcv
                          · exact HK.out j (by omega) p q hp hq
                        · rintro rfl
                          exact badL_at k xs ys a b ha hb HK.out hcv
                      have cV := fun W => covers_any a.kind b.kind a.text b.text W (by omega) (by omega) hak1 hbk1
                      have cO := fun W => without_any b.kind a.kind b.text a.text W (by omega) (by omega) hbk1 hak1
                      have hwo : (withoutP b.kind b.text a.kind a.text).size ≤ 200000 := by unfold withoutP; split <;> exact withP_le hbk2 (by decide)
                      obtain ⟨ak, at'⟩ := a
                      obtain ⟨bk, bt⟩ := b
                      dsimp only at hc1 hc2 hc3 hc4 hlast cV cO hwo
                      have hl2 := hlast _ rfl
                      clear hlast HK
                      generalize coversP ak at' bk bt = cvk at *
                      generalize withoutP bk bt ak at' = wo at *
                      have HL2 := Lib.hid hl2
                      have HWO := Lib.hid hwo
                      have HCV := Lib.hid cV
                      have HOO := Lib.hid cO
                      have hk0 : (0 : Int) ≤ (k : Int) := by omega
                      have hkm : (k : Int) < (m : Int) := by omega
                      clear ha hb hcell hcell2 e1 e2 e3 e4 hl2 cV cO hwo
                      have g1 : (wr.alloc (.cells #[.int .i64 ak, .string at'] 97)).cell? ⟨wr.heap.size, 0, none⟩ = some (.int .i64 ak) := by simp [go_sem]
                      have g2 : (wr.alloc (.cells #[.int .i64 ak, .string at'] 97)).cell? ⟨wr.heap.size, 1, none⟩ = some (.string at') := by simp [go_sem]
                      have g3 : (wr.alloc (.cells #[.int .i64 ak, .string at'] 97)).cell? ⟨w2.heap.size, 2, none⟩ = some (.slice (some ⟨qb, qo, none⟩) m d2) := cell_keep (balloc (Below.refl _ _) _) y2
                      have g4 : (wr.alloc (.cells #[.int .i64 ak, .string at'] 97)).cell? ⟨qb, qo + k * 2, none⟩ = some (.int .i64 bk) := cell_keep (balloc (Below.refl _ _) _) hc3
                      have g5 : (wr.alloc (.cells #[.int .i64 ak, .string at'] 97)).cell? ⟨qb, qo + k * 2 + 1, none⟩ = some (.string bt) := cell_keep (balloc (Below.refl _ _) _) hc4
                      go_wp2_with fail
                      have k1 := cell_regrown g1; have k2 := cell_regrown g2; have k3 := cell_regrown g3; have k4 := cell_regrown g4; have k5 := cell_regrown g5
                      cases cvk
                      · refine wp_region_quiet_below (by kernel_rfl) (by kernel_rfl) ?_; (repeat (any_goals (first | go_big_quiet_step ((first | exact qcalls HCV.out _ _)) | quiet_step ((first | exact qcalls HCV.out _ _))))); refine wpQuiet_nil ?_; intro _ hwq; obtain ⟨⟨dq, osq⟩, hwq⟩ := hwq; subst hwq; have hb9 := below_regrown (wr.alloc (.cells #[.int .i64 ak, .string at'] 97)) dq osq; generalize grow (redrawn (wr.alloc (.cells #[.int .i64 ak, .string at'] 97)) dq) osq = w9 at *
                        have hT9 : Blk w9 wr.heap.size 97 #[.int .i64 ak, .string at'] (0, 0) := Blk.keep (World.alloc_heap_new wr (.cells #[.int .i64 ak, .string at'] 97)) hb9
                        have hwr9 : Below wr.heap.size wr w9 := blater _ hb9
                        have hY9 : PBox w9 w2.heap.size yk yt (.slice (some ⟨qb, qo, none⟩) m d2) yl := Blk.keep hYr hwr9
                        have hown9 := ownsRow_keep (ownsRow_keep HOD.out hbr) hwr9
                        have hR9 := Reads.of_own hown9
                        have hqlt : qb < W2.heap.size := HQB.out (by omega) _ rfl
                        obtain ⟨g, cap, hv, hg, hh, hown9'⟩ : ∃ g cap, Value.slice A3 m c3 = .slice (some ⟨g, 0, none⟩) m cap ∧ W2.heap.size ≤ g ∧ ∃ cur : Array Value, w9.heap[g]? = some (.cells cur 9) := by
                          rcases hown9.2 with ⟨h, _⟩ | ⟨g, cap, cur, he, hb, hh, _⟩
                          · omega
                          · exact ⟨g, cap, he, hb, cur, hh⟩
                        injection hv with hv1 hv2 hv3
                        subst hv1
                        have hB9 : Blk w9 g 9 hh (0, 0) := hown9'
                        have hbw9 : Below w.heap.size w w9 := bstep (bstep hbwd hbr) hwr9
                        obtain ⟨u, hu⟩ : ∃ u, ((wordsL ys).map Value.string)[k]? = some u := ⟨_, List.getElem?_eq_getElem (by have := hR9.1; omega)⟩
                        obtain ⟨b', o', he', hc'⟩ := hR9.2 (by omega)
                        injection he' with he'; injection he' with he1 he2 _; subst he1; subst he2
                        have f6 : w9.cell? ⟨g, k, none⟩ = some u := by have := hc' k u hu; rwa [Nat.zero_add] at this
                        have f7 : w9.frozen? ⟨g, k, none⟩ = false := hB9.free0 k
                        have f1 : w9.cell? ⟨wr.heap.size, 0, none⟩ = some (.int .i64 ak) := hT9.cell 0
                        have f2 : w9.cell? ⟨wr.heap.size, 1, none⟩ = some (.string at') := hT9.cell 1
                        have f3 : w9.cell? ⟨w2.heap.size, 2, none⟩ = some (.slice (some ⟨qb, qo, none⟩) m d2) := hY9.facts.2.2.1
                        have f4 : w9.cell? ⟨qb, qo + k * 2, none⟩ = some (.int .i64 bk) := cell_keep hwr9 hc3
                        have f5 : w9.cell? ⟨qb, qo + k * 2 + 1, none⟩ = some (.string bt) := cell_keep hwr9 hc4
                        have hn1 : g ≠ wr.heap.size := by
                          intro e; subst e
                          have h1 := (hwr9.block)
                          have hX := hT9
                          unfold Blk at hX hB9
                          rw [hX] at hB9
                          injection hB9 with hB9; injection hB9 with _ hB9 _
                          exact absurd hB9 (by decide)
                        have hn2 : g ≠ w2.heap.size := by omega
                        have hn3 : g ≠ qb := by omega
                        have hbad2 := HL2.out.2 rfl
                        have hcf : coverL xs ys = false := coverL_false xs ys (by rw [hbad2]; simp)
                        have hVe : V = .tuple #[.bool false, .string (joinS (c0 :: (wordsL ys).set k wo)), .int .i64 0] := by rw [HV2.out, hcf, hbad2]; rfl
                        have hz2 : ∀ x ∈ (wordsL ys).set k wo, x.size ≤ 200000 := by
                          intro x hx
                          rcases List.mem_or_eq_of_mem_set hx with hx | hx
                          · exact HWS.out x hx
                          · rw [hx]; exact HWO.out
                        have HXG := Lib.hid (fun A c W h => HX2.out A m c ((wordsL ys).set k wo) W h (by omega) hz2)
                        have HR9 := Lib.hid hR9
                        have hkm' : k < m := by omega
                        have hset : ((wordsL ys).map Value.string).set k (.string wo) = ((wordsL ys).set k wo).map Value.string := by simp [List.map_set]
                        have HSET := Lib.hid hset
                        clear hbad2 hcf HV2 HL2 hz2 HX2 hR9 hset hu hc' hown9 hown9' hB9 hT9 hY9 hYr y0 y1 y2 y3 g1 g2 g3 g4 g5 k1 k2 k3 k4 k5 hc1 hc2 hc3 hc4
                        subst hVe
                        go_upto_region 18 with fail
                        go_region_held3 (fun w' => w'.cell? ⟨wr.heap.size, 0, none⟩ = some (.int .i64 ak) ∧ w'.cell? ⟨wr.heap.size, 1, none⟩ = some (.string at') ∧ w'.cell? ⟨w2.heap.size, 2, none⟩ = some (.slice (some ⟨qb, qo, none⟩) m d2) ∧ w'.cell? ⟨qb, qo + k * 2, none⟩ = some (.int .i64 bk) ∧ w'.cell? ⟨qb, qo + k * 2 + 1, none⟩ = some (.string bt) ∧ w'.cell? ⟨g, k, none⟩ = some (rd w' ⟨g, k, none⟩) ∧ w'.frozen? ⟨g, k, none⟩ = false ∧ Below w.heap.size w w')
                          (first | exact ⟨f1, f2, f3, f4, f5, rd_of f6, f7, Below.drew hbw9⟩ | (go_split_ands; exact ⟨cell_keep hb5 ‹_›, cell_keep hb5 ‹_›, cell_keep hb5 ‹_›, cell_keep hb5 ‹_›, cell_keep hb5 ‹_›, rd_keep hb5 ‹_›, frozen_keep hb5 (cell_lt ‹_›) ‹_›, bstep ‹_› hb5⟩) | (go_split_ands; refine ⟨(World.cell?_setCell_other _ _ _ _ (by simp [hn1])).trans ‹_›, (World.cell?_setCell_other _ _ _ _ (by simp [hn1])).trans ‹_›, (World.cell?_setCell_other _ _ _ _ (by simp [hn2])).trans ‹_›, (World.cell?_setCell_other _ _ _ _ (by simp [hn3])).trans ‹_›, (World.cell?_setCell_other _ _ _ _ (by simp [hn3])).trans ‹_›, rd_set ‹_›, by simp [go_sem, *], Below.setCell ‹_› (by simp; omega) _⟩))
                          ((go_at_call 74; refine (HOO.out _).mono ?_; rintro e w5 ⟨rfl, hb5⟩))
                        have hb59 : Below w9.heap.size w9 w5 := by first | exact hb5 | exact undrew hb5
                        have hRz : Reads (w5.setCell ⟨g, k, none⟩ (.string wo)) 1 (some ⟨g, 0, none⟩) m (((wordsL ys).set k wo).map Value.string) := by
                          have h := (HR9.out.keep hb59).put hkm' (.string wo)
                          rw [Nat.zero_add, HSET.out] at h
                          exact h
                        have hbz : Below w.heap.size w (w5.setCell ⟨g, k, none⟩ (.string wo)) := (bstep hbw9 hb59).setCell (by simp; omega) _
                        go_wp2_with (go_at_call 73; refine (HXG.out _ _ _ hRz).mono ?_; rintro e w7 ⟨rfl, hb7⟩)
                        go_ret3
                        exact ⟨rfl, by (repeat (first | exact Below.refl _ _ | assumption | refine Below.drew ?_ | refine balloc ?_ _ | refine bdrewN ?_ _ | refine Below.setCell ?_ (by first | (simp; done) | (simp; omega)) _ | refine bstep ?_ (by assumption)))⟩
                      · refine wp_region_quiet_below (by kernel_rfl) (by kernel_rfl) ?_; (repeat (any_goals (first | go_big_quiet_step ((first | exact qcalls HCV.out _ _)) | quiet_step ((first | exact qcalls HCV.out _ _))))); refine wpQuiet_nil ?_; intro _ hwq; obtain ⟨⟨dq, osq⟩, hwq⟩ := hwq; subst hwq; have hb9 := below_regrown (wr.alloc (.cells #[.int .i64 ak, .string at'] 97)) dq osq; generalize grow (redrawn (wr.alloc (.cells #[.int .i64 ak, .string at'] 97)) dq) osq = w9 at *
                        go_wp2_with fail
                        exact ⟨⟨k + 1, ⟨by go_num, by omega⟩, Lib.hid (HL2.out.1 rfl), bstep (balloc hbr _) hb9⟩, by simp [intOf]; omega⟩
                    · obtain rfl : k = n := by omega
                      have hall : coverL xs ys = true := coverL_all xs ys (by have h1 := HN.out; have h2 := HM.out; omega) (by rw [← HN.out]; exact HK.out)
                      have hVe : V = .tuple #[.bool true, .string ⟨#[]⟩, .int .i64 0] := by rw [HV2.out, hall]; rfl
                      clear HV2 HK hall
                      subst hVe
                      go_wp2_with fail
                      go_ret3
                      exact ⟨rfl, by (repeat (first | exact Below.refl _ _ | assumption | refine Below.drew ?_ | refine balloc ?_ _ | refine bdrewN ?_ _ | refine Below.setCell ?_ (by first | (simp; done) | (simp; omega)) _ | refine bstep ?_ (by assumption)))⟩

end Go.Proofs.YtiglpecjpncclaaGreatDoor
