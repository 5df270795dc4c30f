/- What the specification's Meet of conditions returns. -/
import Derived.Test.YtocgkpdolgnbgaaGreatDoorMR8
import Derived.Test.YtocgkpdolgnbgaaGreatDoorMGK
import Derived.Test.YtocgkpdolgnbgaaGreatDoorMJD
import Derived.Test.YtocgkpdolgnbgaaGreatDoorMGL
import Derived.Test.YtocgkpdolgnbgaaGreatDoorProg
import Derived.WalkKit
import Derived.WalkSpells
import Derived.WalkLawsBesides
import Derived.Below
import Derived.Deep.QuietTactic
import Derived.BigQuiet
import Derived.Lib.QuietBelow
import Derived.Lib.Strings
import Derived.Lib.Hide
import Derived.Deep.RegionWith
import Derived.Deep.RegionHeld3
import Derived.Lib.IndexBytes
namespace Go.Proofs.YtocgkpdolgnbgaaGreatDoor
open Go.RowKit Go.Sort
set_option linter.unusedVariables false
set_option linter.unusedSimpArgs false
set_option maxRecDepth 100000
theorem patR_eq {p q : ByteArray} (hp : patOk p = true) (hq : patOk q = true) : (patR p q).2 = patK p q ∧ (patR p q).1 = patM p q := by
  unfold patR
  by_cases h1 : p.size = 0
  · obtain ⟨e1, e2⟩ := patM_one (p := p) (q := q) (.inl h1)
    rw [if_pos h1, e1, e2, if_pos h1]; exact ⟨rfl, rfl⟩
  by_cases h2 : q.size = 0
  · obtain ⟨e1, e2⟩ := patM_one (p := p) (q := q) (.inr h2)
    rw [if_neg h1, if_pos h2, e1, e2, if_neg h1]; exact ⟨rfl, rfl⟩
  rw [if_neg h1, if_neg h2]
  have h := patM_two hp hq h1 h2
  rw [bothV_R] at h
  simp at h
  exact ⟨h.2.1, h.1⟩
theorem blk_put8 {w : World} {g : Nat} {t : TypeId} {c0 c1 c2 c3 c4 c5 c6 c7 : Value} (h : Blk w g t #[c0, c1, c2, c3, c4, c5, c6, c7] (0, 0)) (v0 v1 v2 v3 v4 v5 v6 v7 : Value) : Blk ((((((((w.setCell ⟨g, 0, none⟩ v0).setCell ⟨g, 1, none⟩ v1).setCell ⟨g, 2, none⟩ v2).setCell ⟨g, 3, none⟩ v3).setCell ⟨g, 4, none⟩ v4).setCell ⟨g, 5, none⟩ v5).setCell ⟨g, 6, none⟩ v6).setCell ⟨g, 7, none⟩ v7) g t #[v0, v1, v2, v3, v4, v5, v6, v7] (0, 0) := by
  have h0 := Blk.set_ h 0 v0
  simp only [List.setIfInBounds_toArray, List.set_cons_zero, List.set_cons_succ] at h0
  have h1 := Blk.set_ h0 1 v1
  simp only [List.setIfInBounds_toArray, List.set_cons_zero, List.set_cons_succ] at h1
  have h2 := Blk.set_ h1 2 v2
  simp only [List.setIfInBounds_toArray, List.set_cons_zero, List.set_cons_succ] at h2
  have h3 := Blk.set_ h2 3 v3
  simp only [List.setIfInBounds_toArray, List.set_cons_zero, List.set_cons_succ] at h3
  have h4 := Blk.set_ h3 4 v4
  simp only [List.setIfInBounds_toArray, List.set_cons_zero, List.set_cons_succ] at h4
  have h5 := Blk.set_ h4 5 v5
  simp only [List.setIfInBounds_toArray, List.set_cons_zero, List.set_cons_succ] at h5
  have h6 := Blk.set_ h5 6 v6
  simp only [List.setIfInBounds_toArray, List.set_cons_zero, List.set_cons_succ] at h6
  have h7 := Blk.set_ h6 7 v7
  simp only [List.setIfInBounds_toArray, List.set_cons_zero, List.set_cons_succ] at h7
  exact h7
theorem below_put8 {a w : World} {g : Nat} (h : Below a.heap.size a w) (hg : a.heap.size ≤ g) (v0 v1 v2 v3 v4 v5 v6 v7 : Value) : Below a.heap.size a ((((((((w.setCell ⟨g, 0, none⟩ v0).setCell ⟨g, 1, none⟩ v1).setCell ⟨g, 2, none⟩ v2).setCell ⟨g, 3, none⟩ v3).setCell ⟨g, 4, none⟩ v4).setCell ⟨g, 5, none⟩ v5).setCell ⟨g, 6, none⟩ v6).setCell ⟨g, 7, none⟩ v7) :=
  (((((((h.setCell (p := ⟨g, 0, none⟩) hg v0).setCell (p := ⟨g, 1, none⟩) hg v1).setCell (p := ⟨g, 2, none⟩) hg v2).setCell (p := ⟨g, 3, none⟩) hg v3).setCell (p := ⟨g, 4, none⟩) hg v4).setCell (p := ⟨g, 5, none⟩) hg v5).setCell (p := ⟨g, 6, none⟩) hg v6).setCell (p := ⟨g, 7, none⟩) hg v7
def DM (g0 g1 H : Nat) (fa ta ua fb tb ub : Int) (p : ByteArray) (S1 S2 S3 : Option Addr) (k1 s1 k2 s2 k3 s3 : Nat) (l1 l2 : List ByteArray) (l3 : List Int) (j : Nat) (v : Value) (w : World) : Prop :=
  match j with
  | 0 => v = .pointer (some ⟨g0, 0, none⟩)
  | 1 => v = .int .i64 fa
  | 2 => v = .pointer (some ⟨g1, 0, none⟩)
  | 3 => v = .int .i64 fb
  | 4 => v = .int .i64 (max fa fb)
  | 5 => v = .pointer (some ⟨g0, 1, none⟩)
  | 6 => v = .int .i64 ta
  | 7 => v = .pointer (some ⟨g1, 1, none⟩)
  | 8 => v = .int .i64 tb
  | 9 => v = .int .i64 (min ta tb)
  | 10 => v = .string p
  | 11 => ∃ b, v = .slice (some b) 0 0
  | 12 => v = .slice S1 k1 s1
  | 13 => ∃ A c, v = .slice A k1 c ∧ Reads w 1 A k1 (l1.map .string) ∧ OfType w A k1 9
  | 14 => ∃ b, v = .slice (some b) 0 0
  | 15 => v = .slice S2 k2 s2
  | 16 => ∃ A c, v = .slice A k2 c ∧ Reads w 1 A k2 (l2.map .string) ∧ OfType w A k2 9
  | 17 => ∃ b, v = .slice (some b) 0 0
  | 18 => v = .slice S3 k3 s3
  | 19 => ∃ A c, v = .slice A k3 c ∧ Reads w 1 A k3 (l3.map (.int .i64)) ∧ OfType w A k3 3
  | 20 => v = .pointer (some ⟨g0, 6, none⟩)
  | 21 => v = .int .i64 ua
  | 22 => v = .pointer (some ⟨g1, 6, none⟩)
  | 23 => v = .int .i64 ub
  | 24 => v = .int .i64 (usesM ua ub)
  | 25 => ∃ A1 c1 A2 c2 A3 c3, v = .agg #[.int .i64 (max fa fb), .int .i64 (min ta tb), .string p, .slice A1 k1 c1, .slice A2 k2 c2, .slice A3 k3 c3, .int .i64 (usesM ua ub)] ∧ Reads w 1 A1 k1 (l1.map .string) ∧ Reads w 1 A2 k2 (l2.map .string) ∧ Reads w 1 A3 k3 (l3.map (.int .i64)) ∧ OfType w A1 k1 9 ∧ OfType w A2 k2 9 ∧ OfType w A3 k3 3
  | 26 => ∃ g, v = .pointer (some ⟨g, 0, none⟩) ∧ H ≤ g ∧ CBox w g 0 0 ⟨#[]⟩ none 0 0 none 0 0 none 0 0 0
  | _ => True
theorem DM.keep {g0 g1 H : Nat} {fa ta ua fb tb ub : Int} {p : ByteArray} {S1 S2 S3 : Option Addr} {k1 s1 k2 s2 k3 s3 : Nat} {l1 l2 : List ByteArray} {l3 : List Int} (j : Nat) (v : Value) (w w' : World) (h : DM g0 g1 H fa ta ua fb tb ub p S1 S2 S3 k1 s1 k2 s2 k3 s3 l1 l2 l3 j v w) (hb : Below w.heap.size w w') : DM g0 g1 H fa ta ua fb tb ub p S1 S2 S3 k1 s1 k2 s2 k3 s3 l1 l2 l3 j v w' := by
  unfold DM at h
  split at h
  all_goals first
    | exact h
    | (obtain ⟨A, c, e, hR, hT⟩ := h; exact ⟨A, c, e, hR.keep hb, hT.keep hb⟩)
    | (obtain ⟨A1, c1, A2, c2, A3, c3, e, r1, r2, r3, u1, u2, u3⟩ := h; exact ⟨A1, c1, A2, c2, A3, c3, e, r1.keep hb, r2.keep hb, r3.keep hb, u1.keep hb, u2.keep hb, u3.keep hb⟩)
    | (obtain ⟨g, e, hg, hx⟩ := h; exact ⟨g, e, hg, Blk.keep hx hb⟩)
    | (unfold DM; split <;> first | trivial | (exfalso; simp_all; done))
theorem both_len {α : Type} [DecidableEq α] (a b : List α) : (bothF a b).length ≤ max a.length b.length := by
  unfold bothF
  refine Nat.le_trans (List.length_filter_le _ _) ?_
  split <;> omega
theorem OfType.but {w w' : World} {A : Option Addr} {n g : Nat} {t t' : TypeId} {cs : Array Value} {fr : Nat × Nat} (h : OfType w A n t) (hb : But g w w') (hB : Blk w g t' cs fr) (ht : t ≠ t') : OfType w' A n t := fun h0 =>
  let ⟨b, o, cs', fr', e, hx⟩ := h h0
  ⟨b, o, cs', fr', e, hb.blk hx (h.off hB ht h0 _ e)⟩
theorem put8_but {w : World} {g : Nat} {v0 v1 v2 v3 v4 v5 v6 v7 : Value} : But g w ((((((((w.setCell ⟨g, 0, none⟩ v0).setCell ⟨g, 1, none⟩ v1).setCell ⟨g, 2, none⟩ v2).setCell ⟨g, 3, none⟩ v3).setCell ⟨g, 4, none⟩ v4).setCell ⟨g, 5, none⟩ v5).setCell ⟨g, 6, none⟩ v6).setCell ⟨g, 7, none⟩ v7) :=
  (((((((But.set w g 0 _).step 1 _).step 2 _).step 3 _).step 4 _).step 5 _).step 6 _).step 7 _
def RMadePost (X : CondV) (f : Int) (w : World) (e : Ending) (w' : World) : Prop := Below w.heap.size w w' ∧ ∃ n : CondMem, e = .returned (.agg #[.int .i64 X.fr, .int .i64 X.till, .string X.pat, .slice n.A X.cl.length n.ca, .slice n.B X.co.length n.cb, .slice n.S X.si.length n.cs, .int .i64 X.us, .int .i64 f]) ∧ CondReads w' X n
set_option maxHeartbeats 32000000 in
theorem rMeet_any (a b : CondV) (m1 m2 : CondMem) (w : World) (hRa : CondReads w a m1) (hRb : CondReads w b m2) (hfa : CondFits a) (hfb : CondFits b) :
    Calls Tryz.prog 15 #[CondMem.val a m1, CondMem.val b m2] w (RMadePost (if validC a && validC b then meetC a b else zeroC) (if validC a && validC b then 0 else 1) w) := by
  have c1 := fun W (hb : Below w.heap.size w W) => rValid21_any a m1 W (hRa.keep hb) hfa.p hfa.cl hfa.co hfa.n1 hfa.n2 hfa.n3
  have c2 := fun W (hb : Below w.heap.size w W) => rValid21_any b m2 W (hRb.keep hb) hfb.p hfb.cl hfb.co hfb.n1 hfb.n2 hfb.n3
  have c3 := fun W => rPattern_any a.pat b.pat W hfa.p hfb.p
  have c4 := fun W (hb : Below w.heap.size w W) => rBothS_any m1.A a.cl.length m1.ca m2.A b.cl.length m2.ca a.cl b.cl W (hRa.cl.keep hb) (hRb.cl.keep hb) hfa.n1 hfb.n1
  have c5 := fun W (hb : Below w.heap.size w W) => rBothS_any m1.B a.co.length m1.cb m2.B b.co.length m2.cb a.co b.co W (hRa.co.keep hb) (hRb.co.keep hb) hfa.n2 hfb.n2
  have c6 := fun W (hb : Below w.heap.size w W) => rCommon_any m1.S a.si.length m1.cs m2.S b.si.length m2.cs a.si b.si W (hRa.si.keep hb) (hRb.si.keep hb) hfa.n3 hfb.n3
  have c7 := fun (h1 : 0 ≤ a.us) (h2 : 0 ≤ b.us) W => rUses_any a.us b.us W h1 h2
  unfold RBothS at c4 c5
  unfold RBothI at c6
  have hn1 : (bothF a.cl b.cl).length ≤ 1000000 := by have := both_len a.cl b.cl; have := hfa.n1; have := hfb.n1; omega
  have hn2 : (bothF a.co b.co).length ≤ 1000000 := by have := both_len a.co b.co; have := hfa.n2; have := hfb.n2; omega
  have hn3 : (bothF a.si b.si).length ≤ 1000000 := by have := both_len a.si b.si; have := hfa.n3; have := hfb.n3; omega
  have hok : validC a = true → validC b = true → (patR a.pat b.pat).2 = patK a.pat b.pat ∧ (patR a.pat b.pat).1 = patM a.pat b.pat := fun h1 h2 => patR_eq ((valid_iff a).1 h1).pat ((valid_iff b).1 h2).pat
  have hua : validC a = true → 0 ≤ a.us := fun h => ((valid_iff a).1 h).us0
  have hub : validC b = true → 0 ≤ b.us := fun h => ((valid_iff b).1 h).us0
  have hme := meetC_eq a b
  unfold meetK at hme
  obtain ⟨X, hX0⟩ : ∃ X, X = (if validC a && validC b then meetC a b else zeroC) := ⟨_, rfl⟩
  obtain ⟨ER, hER⟩ : ∃ x : Int, x = (if validC a && validC b then 0 else 1) := ⟨_, rfl⟩
  rw [← hX0, ← hER]
  rw [hme] at hX0
  clear hme
  generalize validC a = va at *
  generalize validC b = vb at *
  generalize bothF a.cl b.cl = F1 at *
  generalize bothF a.co b.co = F2 at *
  generalize bothF a.si b.si = F3 at *
  generalize bothOk a.cl b.cl = o1 at *
  generalize bothOk a.co b.co = o2 at *
  generalize bothOk a.si b.si = o3 at *
  generalize patK a.pat b.pat = pk at *
  generalize patM a.pat b.pat = pm at *
  generalize patR a.pat b.pat = pr at *
  obtain ⟨pS, pB⟩ := pr
  obtain ⟨fa, ta, pa, cla, coa, sia, ua⟩ := a
  obtain ⟨fb, tb, pb, clb, cob, sib, ub⟩ := b
  obtain ⟨A, ca, B, cb, S, cs⟩ := m1
  obtain ⟨A', ca', B', cb', S', cs'⟩ := m2
  unfold CondMem.val at c1 c2 ⊢
  dsimp only at c1 c2 c3 c4 c5 c6 c7 hok hua hub hX0 ⊢
  generalize cla.length = na at *
  generalize coa.length = nb at *
  generalize sia.length = ns at *
  generalize clb.length = ma at *
  generalize cob.length = mb at *
  generalize sib.length = ms at *
  obtain ⟨k1, hk1⟩ : ∃ k, k = F1.length := ⟨_, rfl⟩
  obtain ⟨k2, hk2⟩ : ∃ k, k = F2.length := ⟨_, rfl⟩
  obtain ⟨k3, hk3⟩ : ∃ k, k = F3.length := ⟨_, rfl⟩
  rw [← hk1] at c4 hn1
  rw [← hk2] at c5 hn2
  rw [← hk3] at c6 hn3
  have C1 := Lib.hid c1; have C2 := Lib.hid c2; have C3 := Lib.hid c3; have C4 := Lib.hid c4; have C5 := Lib.hid c5; have C6 := Lib.hid c6; have C7 := Lib.hid c7
  have HOK := Lib.hid hok; have HUA := Lib.hid hua; have HUB := Lib.hid hub; have HX := Lib.hid hX0; have HER := Lib.hid hER; have HN := Lib.hid (And.intro hn1 (And.intro hn2 hn3)); have HK := Lib.hid (And.intro hk1 (And.intro hk2 hk3))
  clear c1 c2 c3 c4 c5 c6 c7 hok hua hub hX0 hER hn1 hn2 hn3 hk1 hk2 hk3 hRa hRb hfa hfb
  go_enter Tryz.func15, Tryz.ntmps15
  go_upto_region 1 with fail
  obtain ⟨W0, hW0⟩ : ∃ W0, W0 = ((w.alloc (.cells #[.int .i64 fa, .int .i64 ta, .string pa, .slice A na ca, .slice B nb cb, .slice S ns cs, .int .i64 ua] 25)).alloc (.cells #[.int .i64 fb, .int .i64 tb, .string pb, .slice A' ma ca', .slice B' mb cb', .slice S' ms cs', .int .i64 ub] 25)).alloc (.cells #[.int .i64 0, .int .i64 0, .string ⟨#[]⟩, .slice none 0 0, .slice none 0 0, .slice none 0 0, .int .i64 0, .int .i64 0] 40) := ⟨_, rfl⟩
  have hbw : Below w.heap.size w W0 := by rw [hW0]; exact balloc (balloc (balloc (Below.refl _ _) _) _) _
  have hX : CBox W0 w.heap.size fa ta pa A na ca B nb cb S ns cs ua := by rw [hW0]; exact (three_box _ _ _ _).1
  have hY : CBox W0 (w.heap.size + 1) fb tb pb A' ma ca' B' mb cb' S' ms cs' ub := by rw [hW0]; exact (three_box _ _ _ _).2.1
  have hM : Blk W0 (w.heap.size + 1 + 1) 40 #[.int .i64 0, .int .i64 0, .string ⟨#[]⟩, .slice none 0 0, .slice none 0 0, .slice none 0 0, .int .i64 0, .int .i64 0] (0, 0) := by rw [hW0]; exact (three_box _ _ _ _).2.2
  rw [← hW0]
  clear hW0
  (obtain ⟨x0, x1, x2, x3, x4, x5, x6⟩ := CBox.facts hX; obtain ⟨y0, y1, y2, y3, y4, y5, y6⟩ := CBox.facts hY)
  go_cut [21] (fun v wx => v = .bool (!(va && vb)) ∧ CBox wx w.heap.size fa ta pa A na ca B nb cb S ns cs ua ∧ CBox wx (w.heap.size + 1) fb tb pb A' ma ca' B' mb cb' S' ms cs' ub ∧ (Blk wx (w.heap.size + 1 + 1) 40 #[.int .i64 0, .int .i64 0, .string ⟨#[]⟩, .slice none 0 0, .slice none 0 0, .slice none 0 0, .int .i64 0, .int .i64 0] (0, 0)) ∧ Below w.heap.size w wx)
  case first =>
    clear C3 C4 C5 C6 C7 HX HER
    cases va
    · clear C2
      go_wp2_with (go_at_call 27; refine (C1.out _ (by (repeat (first | exact .refl _ _ | assumption | refine .drew ?_ | refine balloc ?_ _ | refine bdrewN ?_ _ | refine .setCell ?_ (by simp <;> omega) _ | refine bstep ?_ (by assumption))))).mono ?_; rintro e w2 ⟨rfl, hb2⟩; have hX2 := Blk.keep hX hb2; have hY2 := Blk.keep hY hb2; have hM2 := Blk.keep hM hb2; have hbw2 := bstep hbw hb2; obtain ⟨p0, p1, p2, p3, p4, p5, p6⟩ := CBox.facts hX2; obtain ⟨q0, q1, q2, q3, q4, q5, q6⟩ := CBox.facts hY2; clear C1)
      all_goals (go_meet; exact ⟨rfl, hX2, hY2, hM2, hbw2⟩)
    · go_wp2_with (first | (go_at_call 27; refine (C1.out _ (by (repeat (first | exact .refl _ _ | assumption | refine .drew ?_ | refine balloc ?_ _ | refine bdrewN ?_ _ | refine .setCell ?_ (by simp <;> omega) _ | refine bstep ?_ (by assumption))))).mono ?_; rintro e w2 ⟨rfl, hb2⟩; have hX2 := Blk.keep hX hb2; have hY2 := Blk.keep hY hb2; have hM2 := Blk.keep hM hb2; have hbw2 := bstep hbw hb2; obtain ⟨p0, p1, p2, p3, p4, p5, p6⟩ := CBox.facts hX2; obtain ⟨q0, q1, q2, q3, q4, q5, q6⟩ := CBox.facts hY2; clear C1) | (go_at_call 27; refine (C2.out _ (by (repeat (first | exact .refl _ _ | assumption | refine .drew ?_ | refine balloc ?_ _ | refine bdrewN ?_ _ | refine .setCell ?_ (by simp <;> omega) _ | refine bstep ?_ (by assumption))))).mono ?_; rintro e w3 ⟨rfl, hb3⟩))
      all_goals (go_meet; exact ⟨by cases vb <;> rfl, Blk.keep hX2 hb3, Blk.keep hY2 hb3, Blk.keep hM2 hb3, bstep hbw2 hb3⟩)
  case rest =>
    clear x0 x1 x2 x3 x4 x5 x6 y0 y1 y2 y3 y4 y5 y6
    clear hX hY hM hbw C1 C2
    obtain ⟨rfl, hX, hY, hM, hbw⟩ := hcut
    (obtain ⟨x0, x1, x2, x3, x4, x5, x6⟩ := CBox.facts hX; obtain ⟨y0, y1, y2, y3, y4, y5, y6⟩ := CBox.facts hY)
    cases hvv : (va && vb)
    · obtain rfl : X = zeroC := by rw [HX.out, hvv]; rfl
      obtain rfl : ER = 1 := by rw [HER.out, hvv]; rfl
      clear HX HER
      (have m0 := Blk.cell hM 0; have m1 := Blk.cell hM 1; have m2 := Blk.cell hM 2; have m3 := Blk.cell hM 3; have m4 := Blk.cell hM 4; have m5 := Blk.cell hM 5; have m6 := Blk.cell hM 6; have m7 := Blk.cell hM 7; have f0 := Blk.free0 hM 0; have f1 := Blk.free0 hM 1; have f2 := Blk.free0 hM 2; have f3 := Blk.free0 hM 3; have f4 := Blk.free0 hM 4; have f5 := Blk.free0 hM 5; have f6 := Blk.free0 hM 6; have f7 := Blk.free0 hM 7; have hzM := Blk.lt hM; simp only [List.getElem?_toArray, List.getElem?_cons_zero, List.getElem?_cons_succ] at m0 m1 m2 m3 m4 m5 m6 m7)
      go_wp2
      (have hP := blk_put8 hM (.int .i64 0) (.int .i64 0) (.string ⟨#[]⟩) (.slice none 0 0) (.slice none 0 0) (.slice none 0 0) (.int .i64 0) (.int .i64 1); have r0 := Blk.cell hP 0; have r1 := Blk.cell hP 1; have r2 := Blk.cell hP 2; have r3 := Blk.cell hP 3; have r4 := Blk.cell hP 4; have r5 := Blk.cell hP 5; have r6 := Blk.cell hP 6; have r7 := Blk.cell hP 7; simp only [List.getElem?_toArray, List.getElem?_cons_zero, List.getElem?_cons_succ] at r0 r1 r2 r3 r4 r5 r6 r7; (clear m0 m1 m2 m3 m4 m5 m6 m7 f0 f1 f2 f3 f4 f5 f6 f7); clear x0 x1 x2 x3 x4 x5 x6 y0 y1 y2 y3 y4 y5 y6)
      exact bodyPost_ret (v := .agg #[.int .i64 0, .int .i64 0, .string ⟨#[]⟩, .slice none 0 0, .slice none 0 0, .slice none 0 0, .int .i64 0, .int .i64 1]) (by simp only [results, Tryz.results15]; simp [go_sem, r0, r1, r2, r3, r4, r5, r6, r7]) rfl ⟨below_put8 hbw (by omega) _ _ _ _ _ _ _ _, ⟨none, 0, none, 0, none, 0⟩, rfl, ⟨Reads.nil_ _ _ _, Reads.nil_ _ _ _, Reads.nil_ _ _ _⟩⟩
    obtain rfl : ER = 0 := by rw [HER.out, hvv]; rfl
    have hx := HX.out
    rw [hvv, if_pos rfl] at hx
    rw [Bool.and_eq_true] at hvv
    obtain ⟨rfl, rfl⟩ := hvv
    obtain ⟨e1, e2⟩ := HOK.out rfl rfl
    have c7 := C7.out (HUA.out rfl) (HUB.out rfl)
    try dsimp only at e1 e2
    subst e1
    subst e2
    clear HX HER HOK HUA HUB C7
    have HX := Lib.hid hx
    have C7 := Lib.hid c7
    clear hx c7
    go_upto_region 7 with (first | (go_at_call 47; refine (C3.out _).mono ?_; rintro e w2 ⟨rfl, hb2⟩; (replace hX := Blk.keep hX hb2; replace hY := Blk.keep hY hb2; replace hM := Blk.keep hM hb2; replace hbw := bstep hbw hb2; clear x0 x1 x2 x3 x4 x5 x6 y0 y1 y2 y3 y4 y5 y6; (obtain ⟨x0, x1, x2, x3, x4, x5, x6⟩ := CBox.facts hX; obtain ⟨y0, y1, y2, y3, y4, y5, y6⟩ := CBox.facts hY))) | (go_at_call 48; (with_reducible refine (C4.out _ hbw).mono ?_); rintro e w3 ⟨hb2, S1, s1, rfl, hr1⟩; (replace hX := Blk.keep hX hb2; replace hY := Blk.keep hY hb2; replace hM := Blk.keep hM hb2; replace hbw := bstep hbw hb2; clear x0 x1 x2 x3 x4 x5 x6 y0 y1 y2 y3 y4 y5 y6; (obtain ⟨x0, x1, x2, x3, x4, x5, x6⟩ := CBox.facts hX; obtain ⟨y0, y1, y2, y3, y4, y5, y6⟩ := CBox.facts hY))) | (go_at_call 48; (with_reducible refine (C5.out _ hbw).mono ?_); rintro e w4 ⟨hb2, S2, s2, rfl, hr2⟩; (replace hX := Blk.keep hX hb2; replace hY := Blk.keep hY hb2; replace hM := Blk.keep hM hb2; replace hbw := bstep hbw hb2; clear x0 x1 x2 x3 x4 x5 x6 y0 y1 y2 y3 y4 y5 y6; (obtain ⟨x0, x1, x2, x3, x4, x5, x6⟩ := CBox.facts hX; obtain ⟨y0, y1, y2, y3, y4, y5, y6⟩ := CBox.facts hY)); replace hr1 := Reads.keep hr1 hb2) | (go_at_call 49; refine (C6.out _ hbw).mono ?_; rintro e w5 ⟨hb2, S3, s3, rfl, hr3⟩; (replace hX := Blk.keep hX hb2; replace hY := Blk.keep hY hb2; replace hM := Blk.keep hM hb2; replace hbw := bstep hbw hb2; clear x0 x1 x2 x3 x4 x5 x6 y0 y1 y2 y3 y4 y5 y6; (obtain ⟨x0, x1, x2, x3, x4, x5, x6⟩ := CBox.facts hX; obtain ⟨y0, y1, y2, y3, y4, y5, y6⟩ := CBox.facts hY)); replace hr1 := Reads.keep hr1 hb2; replace hr2 := Reads.keep hr2 hb2))
    obtain ⟨IS, IS_1, IS_2, IS_3, IS_4⟩ := info_parts infoStr
    obtain ⟨II, II_1, II_2, II_3, II_4⟩ := info_parts infoInt7
    go_cut [13] (fun v wx => ∃ g, v = .pointer (some ⟨g, 0, none⟩) ∧ w.heap.size + 1 + 1 < g ∧ (∃ A1 c1 A2 c2 A3 c3, CBox wx g (max fa fb) (min ta tb) pS A1 k1 c1 A2 k2 c2 A3 k3 c3 (usesM ua ub) ∧ Reads wx 1 A1 k1 (F1.map .string) ∧ Reads wx 1 A2 k2 (F2.map .string) ∧ Reads wx 1 A3 k3 (F3.map (.int .i64)) ∧ OfType wx A1 k1 9 ∧ OfType wx A2 k2 9 ∧ OfType wx A3 k3 3) ∧ (Blk wx (w.heap.size + 1 + 1) 40 #[.int .i64 0, .int .i64 0, .string ⟨#[]⟩, .slice none 0 0, .slice none 0 0, .slice none 0 0, .int .i64 0, .int .i64 0] (0, 0)) ∧ Below w.heap.size w wx)
    case first =>
      clear HX HK x0 x1 x2 x3 x4 x5 x6 y0 y1 y2 y3 y4 y5 y6
      refine wp_free 27 (by kernel_rfl) (by kernel_rfl) (fun a b => Below a.heap.size a b) (fun a => Below.refl _ _) (fun a b c h k => h.trans (k.mono h.size)) (DM w.heap.size (w.heap.size + 1) (w.heap.size + 1 + 1 + 1) fa ta ua fb tb ub pS S1 S2 S3 k1 s1 k2 s2 k3 s3 F1 F2 F3) DM.keep (fun _ _ => True) trivial ?_ ?_
      · skip
        refine ops_cons ?_ (ops_cons ?_ (ops_cons ?_ (ops_cons ?_ (ops_cons ?_ (ops_cons ?_ (ops_cons ?_ (ops_cons ?_ (ops_cons ?_ (ops_cons ?_ (ops_cons ?_ (ops_cons ?_ (ops_cons ?_ (ops_cons ?_ (ops_cons ?_ (ops_cons ?_ (ops_cons ?_ (ops_cons ?_ (ops_cons ?_ (ops_cons ?_ (ops_cons ?_ (ops_cons ?_ (ops_cons ?_ (ops_cons ?_ (ops_cons ?_ (ops_cons ?_ (ops_cons ?_ (ops_nil)))))))))))))))))))))))))))
        · intro ho L a W hC hi hl hJ hG hA hd
          have t2 : a.eval (.tmp 2) = .pointer (some ⟨w.heap.size, 0, none⟩) := agree_eval hA (by kernel_rfl)
          have u2 := (tmp_eq a 2).trans t2
          exact free_step (W' := W) ho rfl (by simp [go_sem, execOp, u2]) ⟨rfl, Below.refl _ _, trivial⟩
        · intro ho L a W hC hi hl hJ hG hA hd
          have t55 : a.eval (.tmp 55) = .pointer (some ⟨w.heap.size, 0, none⟩) := by have := hd _ (Array.mem_of_getElem? (i := 0) rfl) rfl; exact this
          have u55 := (tmp_eq a 55).trans t55
          obtain ⟨x0, x1, x2, x3, x4, x5, x6⟩ := CBox.facts (Blk.keep (Blk.keep hX (Below.drew (Below.refl _ _))) hG)
          exact free_step (W' := W) ho rfl (by simp [go_sem, execOp, u55, x0]) ⟨rfl, Below.refl _ _, trivial⟩
        · intro ho L a W hC hi hl hJ hG hA hd
          have t3 : a.eval (.tmp 3) = .pointer (some ⟨w.heap.size + 1, 0, none⟩) := agree_eval hA (by kernel_rfl)
          have u3 := (tmp_eq a 3).trans t3
          exact free_step (W' := W) ho rfl (by simp [go_sem, execOp, u3]) ⟨rfl, Below.refl _ _, trivial⟩
        · intro ho L a W hC hi hl hJ hG hA hd
          have t57 : a.eval (.tmp 57) = .pointer (some ⟨w.heap.size + 1, 0, none⟩) := by have := hd _ (Array.mem_of_getElem? (i := 0) rfl) rfl; exact this
          have u57 := (tmp_eq a 57).trans t57
          obtain ⟨y0, y1, y2, y3, y4, y5, y6⟩ := CBox.facts (Blk.keep (Blk.keep hY (Below.drew (Below.refl _ _))) hG)
          exact free_step (W' := W) ho rfl (by simp [go_sem, execOp, u57, y0]) ⟨rfl, Below.refl _ _, trivial⟩
        · intro ho L a W hC hi hl hJ hG hA hd
          have t56 : a.eval (.tmp 56) = .int .i64 fa := by have := hd _ (Array.mem_of_getElem? (i := 0) rfl) rfl; exact this
          have u56 := (tmp_eq a 56).trans t56
          have t58 : a.eval (.tmp 58) = .int .i64 fb := by have := hd _ (Array.mem_of_getElem? (i := 1) rfl) rfl; exact this
          have u58 := (tmp_eq a 58).trans t58
          exact free_step (W' := W) ho rfl (by simp [go_sem, execOp, u56, u58]) ⟨rfl, Below.refl _ _, trivial⟩
        · intro ho L a W hC hi hl hJ hG hA hd
          have t2 : a.eval (.tmp 2) = .pointer (some ⟨w.heap.size, 0, none⟩) := agree_eval hA (by kernel_rfl)
          have u2 := (tmp_eq a 2).trans t2
          exact free_step (W' := W) ho rfl (by simp [go_sem, execOp, u2]) ⟨rfl, Below.refl _ _, trivial⟩
        · intro ho L a W hC hi hl hJ hG hA hd
          have t60 : a.eval (.tmp 60) = .pointer (some ⟨w.heap.size, 1, none⟩) := by have := hd _ (Array.mem_of_getElem? (i := 0) rfl) rfl; exact this
          have u60 := (tmp_eq a 60).trans t60
          obtain ⟨x0, x1, x2, x3, x4, x5, x6⟩ := CBox.facts (Blk.keep (Blk.keep hX (Below.drew (Below.refl _ _))) hG)
          exact free_step (W' := W) ho rfl (by simp [go_sem, execOp, u60, x1]) ⟨rfl, Below.refl _ _, trivial⟩
        · intro ho L a W hC hi hl hJ hG hA hd
          have t3 : a.eval (.tmp 3) = .pointer (some ⟨w.heap.size + 1, 0, none⟩) := agree_eval hA (by kernel_rfl)
          have u3 := (tmp_eq a 3).trans t3
          exact free_step (W' := W) ho rfl (by simp [go_sem, execOp, u3]) ⟨rfl, Below.refl _ _, trivial⟩
        · intro ho L a W hC hi hl hJ hG hA hd
          have t62 : a.eval (.tmp 62) = .pointer (some ⟨w.heap.size + 1, 1, none⟩) := by have := hd _ (Array.mem_of_getElem? (i := 0) rfl) rfl; exact this
          have u62 := (tmp_eq a 62).trans t62
          obtain ⟨y0, y1, y2, y3, y4, y5, y6⟩ := CBox.facts (Blk.keep (Blk.keep hY (Below.drew (Below.refl _ _))) hG)
          exact free_step (W' := W) ho rfl (by simp [go_sem, execOp, u62, y1]) ⟨rfl, Below.refl _ _, trivial⟩
        · intro ho L a W hC hi hl hJ hG hA hd
          have t61 : a.eval (.tmp 61) = .int .i64 ta := by have := hd _ (Array.mem_of_getElem? (i := 0) rfl) rfl; exact this
          have u61 := (tmp_eq a 61).trans t61
          have t63 : a.eval (.tmp 63) = .int .i64 tb := by have := hd _ (Array.mem_of_getElem? (i := 1) rfl) rfl; exact this
          have u63 := (tmp_eq a 63).trans t63
          exact free_step (W' := W) ho rfl (by simp [go_sem, execOp, u61, u63]) ⟨rfl, Below.refl _ _, trivial⟩
        · intro ho L a W hC hi hl hJ hG hA hd
          have t5 : a.eval (.tmp 5) = .string pS := agree_eval hA (by kernel_rfl)
          have u5 := (tmp_eq a 5).trans t5
          exact free_step (W' := W) ho rfl (by simp [go_sem, execOp, u5]) ⟨rfl, Below.refl _ _, trivial⟩
        · intro ho L a W hC hi hl hJ hG hA hd
          exact free_step (v := .slice (some ⟨W.heap.size, 0, none⟩) 0 0) (W' := W.alloc (.cells #[] 9)) ho rfl (by simp [go_sem, execOp]) ⟨⟨_, rfl⟩, balloc (Below.refl _ _) _, trivial⟩
        · intro ho L a W hC hi hl hJ hG hA hd
          have t7 : a.eval (.tmp 7) = .slice S1 k1 s1 := agree_eval hA (by kernel_rfl)
          have u7 := (tmp_eq a 7).trans t7
          exact free_step (W' := W) ho rfl (by simp [go_sem, execOp, u7]) ⟨rfl, Below.refl _ _, trivial⟩
        · intro ho L a W hC hi hl hJ hG hA hd
          obtain ⟨b, t66⟩ : ∃ b, a.eval (.tmp 66) = .slice (some b) 0 0 := by have := hd _ (Array.mem_of_getElem? (i := 0) rfl) rfl; exact this
          have u66 := (tmp_eq a 66).trans t66
          have t67 : a.eval (.tmp 67) = .slice S1 k1 s1 := by have := hd _ (Array.mem_of_getElem? (i := 1) rfl) rfl; exact this
          have u67 := (tmp_eq a 67).trans t67
          refine free_append (t := 22) (e := 9) (bytes := 16) (.tmp 66) (.tmp 67) ho rfl rfl Tryz.underlying22 IS_1 IS_2 IS_3 (Nat.le_of_eq IS_4) (by decide) rfl t66 t67 (Reads.keep (Reads.keep hr1 (Below.drew (Below.refl _ _))) hG) HN.out.1 ?_
          intro A' c' W' hR' hT' hb'
          exact ⟨⟨A', c', rfl, hR', hT'⟩, hb', trivial⟩
        · intro ho L a W hC hi hl hJ hG hA hd
          exact free_step (v := .slice (some ⟨W.heap.size, 0, none⟩) 0 0) (W' := W.alloc (.cells #[] 9)) ho rfl (by simp [go_sem, execOp]) ⟨⟨_, rfl⟩, balloc (Below.refl _ _) _, trivial⟩
        · intro ho L a W hC hi hl hJ hG hA hd
          have t9 : a.eval (.tmp 9) = .slice S2 k2 s2 := agree_eval hA (by kernel_rfl)
          have u9 := (tmp_eq a 9).trans t9
          exact free_step (W' := W) ho rfl (by simp [go_sem, execOp, u9]) ⟨rfl, Below.refl _ _, trivial⟩
        · intro ho L a W hC hi hl hJ hG hA hd
          obtain ⟨b, t69⟩ : ∃ b, a.eval (.tmp 69) = .slice (some b) 0 0 := by have := hd _ (Array.mem_of_getElem? (i := 0) rfl) rfl; exact this
          have u69 := (tmp_eq a 69).trans t69
          have t70 : a.eval (.tmp 70) = .slice S2 k2 s2 := by have := hd _ (Array.mem_of_getElem? (i := 1) rfl) rfl; exact this
          have u70 := (tmp_eq a 70).trans t70
          refine free_append (t := 22) (e := 9) (bytes := 16) (.tmp 69) (.tmp 70) ho rfl rfl Tryz.underlying22 IS_1 IS_2 IS_3 (Nat.le_of_eq IS_4) (by decide) rfl t69 t70 (Reads.keep (Reads.keep hr2 (Below.drew (Below.refl _ _))) hG) HN.out.2.1 ?_
          intro A' c' W' hR' hT' hb'
          exact ⟨⟨A', c', rfl, hR', hT'⟩, hb', trivial⟩
        · intro ho L a W hC hi hl hJ hG hA hd
          exact free_step (v := .slice (some ⟨W.heap.size, 0, none⟩) 0 0) (W' := W.alloc (.cells #[] 3)) ho rfl (by simp [go_sem, execOp]) ⟨⟨_, rfl⟩, balloc (Below.refl _ _) _, trivial⟩
        · intro ho L a W hC hi hl hJ hG hA hd
          have t11 : a.eval (.tmp 11) = .slice S3 k3 s3 := agree_eval hA (by kernel_rfl)
          have u11 := (tmp_eq a 11).trans t11
          exact free_step (W' := W) ho rfl (by simp [go_sem, execOp, u11]) ⟨rfl, Below.refl _ _, trivial⟩
        · intro ho L a W hC hi hl hJ hG hA hd
          obtain ⟨b, t72⟩ : ∃ b, a.eval (.tmp 72) = .slice (some b) 0 0 := by have := hd _ (Array.mem_of_getElem? (i := 0) rfl) rfl; exact this
          have u72 := (tmp_eq a 72).trans t72
          have t73 : a.eval (.tmp 73) = .slice S3 k3 s3 := by have := hd _ (Array.mem_of_getElem? (i := 1) rfl) rfl; exact this
          have u73 := (tmp_eq a 73).trans t73
          refine free_append (t := 23) (e := 3) (bytes := 8) (.tmp 72) (.tmp 73) ho rfl rfl Tryz.underlying23 II_1 II_2 II_3 (Nat.le_of_eq II_4) (by decide) rfl t72 t73 (Reads.keep (Reads.keep hr3 (Below.drew (Below.refl _ _))) hG) HN.out.2.2 ?_
          intro A' c' W' hR' hT' hb'
          exact ⟨⟨A', c', rfl, hR', hT'⟩, hb', trivial⟩
        · intro ho L a W hC hi hl hJ hG hA hd
          have t2 : a.eval (.tmp 2) = .pointer (some ⟨w.heap.size, 0, none⟩) := agree_eval hA (by kernel_rfl)
          have u2 := (tmp_eq a 2).trans t2
          exact free_step (W' := W) ho rfl (by simp [go_sem, execOp, u2]) ⟨rfl, Below.refl _ _, trivial⟩
        · intro ho L a W hC hi hl hJ hG hA hd
          have t75 : a.eval (.tmp 75) = .pointer (some ⟨w.heap.size, 6, none⟩) := by have := hd _ (Array.mem_of_getElem? (i := 0) rfl) rfl; exact this
          have u75 := (tmp_eq a 75).trans t75
          obtain ⟨x0, x1, x2, x3, x4, x5, x6⟩ := CBox.facts (Blk.keep (Blk.keep hX (Below.drew (Below.refl _ _))) hG)
          exact free_step (W' := W) ho rfl (by simp [go_sem, execOp, u75, x6]) ⟨rfl, Below.refl _ _, trivial⟩
        · intro ho L a W hC hi hl hJ hG hA hd
          have t3 : a.eval (.tmp 3) = .pointer (some ⟨w.heap.size + 1, 0, none⟩) := agree_eval hA (by kernel_rfl)
          have u3 := (tmp_eq a 3).trans t3
          exact free_step (W' := W) ho rfl (by simp [go_sem, execOp, u3]) ⟨rfl, Below.refl _ _, trivial⟩
        · intro ho L a W hC hi hl hJ hG hA hd
          have t77 : a.eval (.tmp 77) = .pointer (some ⟨w.heap.size + 1, 6, none⟩) := by have := hd _ (Array.mem_of_getElem? (i := 0) rfl) rfl; exact this
          have u77 := (tmp_eq a 77).trans t77
          obtain ⟨y0, y1, y2, y3, y4, y5, y6⟩ := CBox.facts (Blk.keep (Blk.keep hY (Below.drew (Below.refl _ _))) hG)
          exact free_step (W' := W) ho rfl (by simp [go_sem, execOp, u77, y6]) ⟨rfl, Below.refl _ _, trivial⟩
        · intro ho L a W hC hi hl hJ hG hA hd
          have t76 : a.eval (.tmp 76) = .int .i64 ua := by have := hd _ (Array.mem_of_getElem? (i := 0) rfl) rfl; exact this
          have u76 := (tmp_eq a 76).trans t76
          have t78 : a.eval (.tmp 78) = .int .i64 ub := by have := hd _ (Array.mem_of_getElem? (i := 1) rfl) rfl; exact this
          have u78 := (tmp_eq a 78).trans t78
          refine free_call (f := 50) (args := #[.int .i64 ua, .int .i64 ub]) ho rfl (by simp [go_sem, execOp, u76, u78]) ?_
          refine (C7.out _).mono ?_
          rintro e W' ⟨rfl, hb'⟩
          exact ⟨_, rfl, rfl, hb', trivial⟩
        · intro ho L a W hC hi hl hJ hG hA hd
          have t59 : a.eval (.tmp 59) = .int .i64 (max fa fb) := by have := hd _ (Array.mem_of_getElem? (i := 0) rfl) rfl; exact this
          have u59 := (tmp_eq a 59).trans t59
          have t64 : a.eval (.tmp 64) = .int .i64 (min ta tb) := by have := hd _ (Array.mem_of_getElem? (i := 1) rfl) rfl; exact this
          have u64 := (tmp_eq a 64).trans t64
          have t65 : a.eval (.tmp 65) = .string pS := by have := hd _ (Array.mem_of_getElem? (i := 2) rfl) rfl; exact this
          have u65 := (tmp_eq a 65).trans t65
          obtain ⟨A1, c1, t68, x68_0, x68_1⟩ : ∃ A1 c1, a.eval (.tmp 68) = .slice A1 k1 c1 ∧ Reads W 1 A1 k1 (F1.map .string) ∧ OfType W A1 k1 9 := by have := hd _ (Array.mem_of_getElem? (i := 3) rfl) rfl; exact this
          have u68 := (tmp_eq a 68).trans t68
          obtain ⟨A2, c2, t71, x71_0, x71_1⟩ : ∃ A2 c2, a.eval (.tmp 71) = .slice A2 k2 c2 ∧ Reads W 1 A2 k2 (F2.map .string) ∧ OfType W A2 k2 9 := by have := hd _ (Array.mem_of_getElem? (i := 4) rfl) rfl; exact this
          have u71 := (tmp_eq a 71).trans t71
          obtain ⟨A3, c3, t74, x74_0, x74_1⟩ : ∃ A3 c3, a.eval (.tmp 74) = .slice A3 k3 c3 ∧ Reads W 1 A3 k3 (F3.map (.int .i64)) ∧ OfType W A3 k3 3 := by have := hd _ (Array.mem_of_getElem? (i := 5) rfl) rfl; exact this
          have u74 := (tmp_eq a 74).trans t74
          have t79 : a.eval (.tmp 79) = .int .i64 (usesM ua ub) := by have := hd _ (Array.mem_of_getElem? (i := 6) rfl) rfl; exact this
          have u79 := (tmp_eq a 79).trans t79
          exact free_step (v := .agg #[.int .i64 (max fa fb), .int .i64 (min ta tb), .string pS, .slice A1 k1 c1, .slice A2 k2 c2, .slice A3 k3 c3, .int .i64 (usesM ua ub)]) (W' := W) ho rfl (by simp [go_sem, execOp, u59, u64, u65, u68, u71, u74, u79]) ⟨⟨A1, c1, A2, c2, A3, c3, rfl, x68_0, x71_0, x74_0, x68_1, x71_1, x74_1⟩, Below.refl _ _, trivial⟩
        · intro ho L a W hC hi hl hJ hG hA hd
          have hlt := Blk.lt (Blk.keep (Blk.keep hM (Below.drew (Below.refl _ _))) hG)
          exact free_step (v := .pointer (some ⟨W.heap.size, 0, none⟩)) (W' := W.alloc (.cells #[.int .i64 0, .int .i64 0, .string ⟨#[]⟩, .slice none 0 0, .slice none 0 0, .slice none 0 0, .int .i64 0] 25)) ho rfl (by simp [go_sem, execOp]) ⟨⟨W.heap.size, rfl, hlt, World.alloc_heap_new _ _⟩, balloc (Below.refl _ _) _, trivial⟩
      · intro vals w' hG _ hD
        obtain ⟨A1, c1, A2, c2, A3, c3, e25, q1, q2, q3, u1, u2, u3⟩ : ∃ A1 c1 A2 c2 A3 c3, vals 25 = .agg #[.int .i64 (max fa fb), .int .i64 (min ta tb), .string pS, .slice A1 k1 c1, .slice A2 k2 c2, .slice A3 k3 c3, .int .i64 (usesM ua ub)] ∧ Reads w' 1 A1 k1 (F1.map .string) ∧ Reads w' 1 A2 k2 (F2.map .string) ∧ Reads w' 1 A3 k3 (F3.map (.int .i64)) ∧ OfType w' A1 k1 9 ∧ OfType w' A2 k2 9 ∧ OfType w' A3 k3 3 := hD 25 (by omega)
        obtain ⟨g, e26, hg, hbox⟩ : ∃ g, vals 26 = .pointer (some ⟨g, 0, none⟩) ∧ w.heap.size + 1 + 1 + 1 ≤ g ∧ CBox w' g 0 0 ⟨#[]⟩ none 0 0 none 0 0 none 0 0 0 := hD 26 (by omega)
        have hM' := Blk.keep (Blk.keep hM (Below.drew (Below.refl _ _))) hG
        have hbw' := bstep (bstep hbw (Below.drew (Below.refl _ _))) hG
        dsimp only [List.drop, List.take, putL]
        rw [e25, e26]
        obtain ⟨x0, x1, x2, x3, x4, x5, x6⟩ := CBox.facts hbox
        have z0 := Blk.free0 hbox 0; have z1 := Blk.free0 hbox 1; have z2 := Blk.free0 hbox 2; have z3 := Blk.free0 hbox 3; have z4 := Blk.free0 hbox 4; have z5 := Blk.free0 hbox 5; have z6 := Blk.free0 hbox 6
        go_wp2
        go_meet
        have hb7 := put_but (w := w') (g := g) (v0 := .int .i64 (max fa fb)) (v1 := .int .i64 (min ta tb)) (v2 := .string pS) (v3 := .slice A1 k1 c1) (v4 := .slice A2 k2 c2) (v5 := .slice A3 k3 c3) (v6 := .int .i64 (usesM ua ub))
        exact ⟨g, rfl, by omega, ⟨A1, c1, A2, c2, A3, c3, CBox.put hbox _ _ _ _ _ _ _ _ _ _ _ _ _, hb7.reads q1 (u1.off hbox (by decide)), hb7.reads q2 (u2.off hbox (by decide)), hb7.reads q3 (u3.off hbox (by decide)), u1.but hb7 hbox (by decide), u2.but hb7 hbox (by decide), u3.but hb7 hbox (by decide)⟩, hb7.blk hM' (by omega), hbw'.trans (hb7.below (by omega) hbw'.size)⟩
    case rest =>
      clear hX hY hM hbw
      obtain ⟨g, rfl, hg, ⟨A1, c1, A2, c2, A3, c3, hB, q1, q2, q3, u1, u2, u3⟩, hM, hbw⟩ := hcut
      clear x0 x1 x2 x3 x4 x5 x6 y0 y1 y2 y3 y4 y5 y6 hr1 hr2 hr3 hb2
      obtain ⟨x0, x1, x2, x3, x4, x5, x6⟩ := CBox.facts hB
      go_upto_region 8 with fail
      go_cut [101] (fun v wx => v = .bool (!(decide (max fa fb < min ta tb) && (o1 && o2 && o3 && pB))) ∧ CBox wx g (max fa fb) (min ta tb) pS A1 k1 c1 A2 k2 c2 A3 k3 c3 (usesM ua ub) ∧ Reads wx 1 A1 k1 (F1.map .string) ∧ Reads wx 1 A2 k2 (F2.map .string) ∧ Reads wx 1 A3 k3 (F3.map (.int .i64)) ∧ OfType wx A1 k1 9 ∧ OfType wx A2 k2 9 ∧ OfType wx A3 k3 3 ∧ (Blk wx (w.heap.size + 1 + 1) 40 #[.int .i64 0, .int .i64 0, .string ⟨#[]⟩, .slice none 0 0, .slice none 0 0, .slice none 0 0, .int .i64 0, .int .i64 0] (0, 0)) ∧ Below w.heap.size w wx)
      case first =>
        clear HX HK
        by_cases hlt : max fa fb < min ta tb
        · have hlt2 : ¬ min ta tb ≤ max fa fb := by omega
          cases pB <;> cases o1 <;> cases o2 <;> cases o3
          all_goals (go_wp2; go_meet; exact ⟨by simp [hlt], hB, q1, q2, q3, u1, u2, u3, hM, hbw⟩)
        · have hlt2 : min ta tb ≤ max fa fb := by omega
          go_wp2
          all_goals (go_meet; exact ⟨by simp [hlt], hB, q1, q2, q3, u1, u2, u3, hM, hbw⟩)
      case rest =>
        clear hM hbw hB q1 q2 q3 u1 u2 u3 x0 x1 x2 x3 x4 x5 x6
        obtain ⟨rfl, hB, q1, q2, q3, u1, u2, u3, hM, hbw⟩ := hcut
        obtain ⟨x0, x1, x2, x3, x4, x5, x6⟩ := CBox.facts hB
        cases hk : (decide (max fa fb < min ta tb) && (o1 && o2 && o3 && pB))
        · obtain rfl : X = zeroC := by have hx := HX.out; rw [hk] at hx; exact hx
          clear HX HK hk
          (have m0 := Blk.cell hM 0; have m1 := Blk.cell hM 1; have m2 := Blk.cell hM 2; have m3 := Blk.cell hM 3; have m4 := Blk.cell hM 4; have m5 := Blk.cell hM 5; have m6 := Blk.cell hM 6; have m7 := Blk.cell hM 7; have f0 := Blk.free0 hM 0; have f1 := Blk.free0 hM 1; have f2 := Blk.free0 hM 2; have f3 := Blk.free0 hM 3; have f4 := Blk.free0 hM 4; have f5 := Blk.free0 hM 5; have f6 := Blk.free0 hM 6; have f7 := Blk.free0 hM 7; have hzM := Blk.lt hM; simp only [List.getElem?_toArray, List.getElem?_cons_zero, List.getElem?_cons_succ] at m0 m1 m2 m3 m4 m5 m6 m7)
          go_wp2
          clear x0 x1 x2 x3 x4 x5 x6
          have hP := blk_put8 hM (.int .i64 0) (.int .i64 0) (.string ⟨#[]⟩) (.slice none 0 0) (.slice none 0 0) (.slice none 0 0) (.int .i64 0) (.int .i64 0); have r0 := Blk.cell hP 0; have r1 := Blk.cell hP 1; have r2 := Blk.cell hP 2; have r3 := Blk.cell hP 3; have r4 := Blk.cell hP 4; have r5 := Blk.cell hP 5; have r6 := Blk.cell hP 6; have r7 := Blk.cell hP 7; simp only [List.getElem?_toArray, List.getElem?_cons_zero, List.getElem?_cons_succ] at r0 r1 r2 r3 r4 r5 r6 r7; (clear m0 m1 m2 m3 m4 m5 m6 m7 f0 f1 f2 f3 f4 f5 f6 f7)
          exact bodyPost_ret (v := .agg #[.int .i64 0, .int .i64 0, .string ⟨#[]⟩, .slice none 0 0, .slice none 0 0, .slice none 0 0, .int .i64 0, .int .i64 0]) (by simp only [results, Tryz.results15]; simp [go_sem, r0, r1, r2, r3, r4, r5, r6, r7]) rfl ⟨below_put8 hbw (by omega) _ _ _ _ _ _ _ _, ⟨none, 0, none, 0, none, 0⟩, rfl, ⟨Reads.nil_ _ _ _, Reads.nil_ _ _ _, Reads.nil_ _ _ _⟩⟩
        · obtain rfl : X = ⟨max fa fb, min ta tb, pS, F1, F2, F3, usesM ua ub⟩ := by have hx := HX.out; rw [hk] at hx; exact hx
          clear HX hk
          (have m0 := Blk.cell hM 0; have m1 := Blk.cell hM 1; have m2 := Blk.cell hM 2; have m3 := Blk.cell hM 3; have m4 := Blk.cell hM 4; have m5 := Blk.cell hM 5; have m6 := Blk.cell hM 6; have m7 := Blk.cell hM 7; have f0 := Blk.free0 hM 0; have f1 := Blk.free0 hM 1; have f2 := Blk.free0 hM 2; have f3 := Blk.free0 hM 3; have f4 := Blk.free0 hM 4; have f5 := Blk.free0 hM 5; have f6 := Blk.free0 hM 6; have f7 := Blk.free0 hM 7; have hzM := Blk.lt hM; simp only [List.getElem?_toArray, List.getElem?_cons_zero, List.getElem?_cons_succ] at m0 m1 m2 m3 m4 m5 m6 m7)
          go_wp2
          have hk1 := HK.out.1; have hk2 := HK.out.2.1; have hk3 := HK.out.2.2
          clear x0 x1 x2 x3 x4 x5 x6
          have hP := blk_put8 hM (.int .i64 (max fa fb)) (.int .i64 (min ta tb)) (.string pS) (.slice A1 k1 c1) (.slice A2 k2 c2) (.slice A3 k3 c3) (.int .i64 (usesM ua ub)) (.int .i64 0); have r0 := Blk.cell hP 0; have r1 := Blk.cell hP 1; have r2 := Blk.cell hP 2; have r3 := Blk.cell hP 3; have r4 := Blk.cell hP 4; have r5 := Blk.cell hP 5; have r6 := Blk.cell hP 6; have r7 := Blk.cell hP 7; simp only [List.getElem?_toArray, List.getElem?_cons_zero, List.getElem?_cons_succ] at r0 r1 r2 r3 r4 r5 r6 r7; (clear m0 m1 m2 m3 m4 m5 m6 m7 f0 f1 f2 f3 f4 f5 f6 f7)
          refine bodyPost_ret (v := .agg #[.int .i64 (max fa fb), .int .i64 (min ta tb), .string pS, .slice A1 k1 c1, .slice A2 k2 c2, .slice A3 k3 c3, .int .i64 (usesM ua ub), .int .i64 0]) (by simp only [results, Tryz.results15]; simp [go_sem, r0, r1, r2, r3, r4, r5, r6, r7]) rfl ⟨below_put8 hbw (by omega) _ _ _ _ _ _ _ _, ⟨A1, c1, A2, c2, A3, c3⟩, by rw [hk1, hk2, hk3], ?_⟩
          refine ⟨?_, ?_, ?_⟩
          · show Reads _ 1 A1 F1.length (F1.map .string)
            rw [← hk1]; exact put8_but.reads q1 (u1.off hM (by decide))
          · show Reads _ 1 A2 F2.length (F2.map .string)
            rw [← hk2]; exact put8_but.reads q2 (u2.off hM (by decide))
          · show Reads _ 1 A3 F3.length (F3.map (.int .i64))
            rw [← hk3]; exact put8_but.reads q3 (u3.off hM (by decide))
end Go.Proofs.YtocgkpdolgnbgaaGreatDoor
