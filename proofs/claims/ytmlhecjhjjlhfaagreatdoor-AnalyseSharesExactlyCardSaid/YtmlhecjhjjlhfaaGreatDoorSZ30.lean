/- Plain: what the policy package says of a rule, a stamp and a period. -/
import Derived.Test.YtmlhecjhjjlhfaaGreatDoorSZ16
import Derived.Test.YtmlhecjhjjlhfaaGreatDoorSZ24
import Derived.Test.YtmlhecjhjjlhfaaGreatDoorSZ28
import Derived.Test.YtmlhecjhjjlhfaaGreatDoorProg
import Derived.WalkKit
import Derived.WalkSpells
import Derived.WalkLawsBesides
import Derived.Below
import Derived.Deep.QuietTactic
import Derived.BigQuiet
import Derived.Lib.QuietBelow
import Derived.Lib.Strings
import Derived.Lib.Hide
import Derived.Deep.RegionWith
import Derived.Deep.RegionHeld3
import Derived.Lib.IndexBytes
import Derived.Test.YtmlhecjhjjlhfaaGreatDoorSZ4
import Derived.Maps.Own
import Derived.Maps.OwnOps
import Derived.Test.YtmlhecjhjjlhfaaGreatDoorSZ22
import Derived.Test.YtmlhecjhjjlhfaaGreatDoorSZ26
import Derived.Lib.AtoiTie
import Derived.Lib.AtoiAllCases
import Derived.Test.YtmlhecjhjjlhfaaGreatDoorSZ25
import Derived.Test.YtmlhecjhjjlhfaaGreatDoorSZ1
import Derived.Test.YtmlhecjhjjlhfaaGreatDoorSZ29
import Derived.Test.YtmlhecjhjjlhfaaGreatDoorSZ3
import Derived.Deep.DeepCutAuto
import Derived.RegionTactic
import Derived.ChangeAlike
namespace Go.Proofs.YtmlhecjhjjlhfaaGreatDoor
open Go.RowKit Go.Sort
set_option linter.unusedVariables false
set_option linter.unusedSimpArgs false
set_option maxRecDepth 100000
def namesA (l : List ByteArray) : Bool := (List.range l.length).all (okK ltB isNameB l)
def spanB (n : Int) : Bool := decide (0 ≤ n) && decide (n ≤ 1099511627776)
def validR (r : RuleV) : Bool :=
  isNameB r.name && (compileB r.pat).isSome && namesA r.tags && validC r.allow && spanB r.fresh && spanB r.stale && spanB r.down && spanB r.neg && decide (r.vary.length ≤ 8) && decide (0 ≤ r.cost) && decide (r.cost ≤ 1073741824) && decide (r.prog.size ≤ 64)
structure VaryFits (v : VaryV) : Prop where
  h : v.header.size ≤ 200
  d : v.dflt.size ≤ 200
  n : v.values.length ≤ 10
  x : ∀ s ∈ v.values, s.size ≤ 200
structure RuleFits (r : RuleV) : Prop where
  name : r.name.size ≤ 200
  pat : r.pat.size ≤ 200
  prog : r.prog.size ≤ 200
  nt : r.tags.length ≤ 10
  t : ∀ s ∈ r.tags, s.size ≤ 200
  nv : r.vary.length ≤ 10
  v : ∀ y ∈ r.vary, VaryFits y
  c : CondFits r.allow
structure RuleOk (r : RuleV) : Prop where
  name : isNameB r.name = true
  pat : (compileB r.pat).isSome = true
  tags : namesA r.tags = true
  allow : validC r.allow = true
  f0 : 0 ≤ r.fresh
  f1 : r.fresh ≤ 1099511627776
  s0 : 0 ≤ r.stale
  s1 : r.stale ≤ 1099511627776
  d0 : 0 ≤ r.down
  d1 : r.down ≤ 1099511627776
  n0 : 0 ≤ r.neg
  n1 : r.neg ≤ 1099511627776
  vary : r.vary.length ≤ 8
  c0 : 0 ≤ r.cost
  c1 : r.cost ≤ 1073741824
  prog : r.prog.size ≤ 64
theorem rule_ok {r : RuleV} (h : validR r = true) : RuleOk r := by
  unfold validR spanB at h
  simp only [Bool.and_eq_true, decide_eq_true_eq] at h
  obtain ⟨⟨⟨⟨⟨⟨⟨⟨⟨⟨⟨h1, h2⟩, h3⟩, h4⟩, h5, h6⟩, h7, h8⟩, h9, h10⟩, h11, h12⟩, h13⟩, h14⟩, h15⟩, h16⟩ := h
  exact ⟨h1, h2, h3, h4, h5, h6, h7, h8, h9, h10, h11, h12, h13, h14, h15, h16⟩
structure D16 where
  (a0 a1 a2 a3 a4 a5 a6 a7 a8 a9 a10 a11 a12 a13 a14 a15 : Int)
structure StampV where
  addr : ByteArray
  variant : ByteArray
  status : Int
  size : Int
  body : D16
  tags : ByteArray
  lo : Int
  hi : Int
  gate : Int
  serial : Int
  seal_ : D16
def StampV.cells (s : StampV) : List Value := [.string s.addr, .string s.variant, .int .i64 s.status, .int .i64 s.size,
  .int .u8 s.body.a0, .int .u8 s.body.a1, .int .u8 s.body.a2, .int .u8 s.body.a3, .int .u8 s.body.a4, .int .u8 s.body.a5, .int .u8 s.body.a6, .int .u8 s.body.a7, .int .u8 s.body.a8, .int .u8 s.body.a9, .int .u8 s.body.a10, .int .u8 s.body.a11, .int .u8 s.body.a12, .int .u8 s.body.a13, .int .u8 s.body.a14, .int .u8 s.body.a15,
  .string s.tags, .int .i64 s.lo, .int .i64 s.hi, .int .i64 s.gate, .int .i64 s.serial,
  .int .u8 s.seal_.a0, .int .u8 s.seal_.a1, .int .u8 s.seal_.a2, .int .u8 s.seal_.a3, .int .u8 s.seal_.a4, .int .u8 s.seal_.a5, .int .u8 s.seal_.a6, .int .u8 s.seal_.a7, .int .u8 s.seal_.a8, .int .u8 s.seal_.a9, .int .u8 s.seal_.a10, .int .u8 s.seal_.a11, .int .u8 s.seal_.a12, .int .u8 s.seal_.a13, .int .u8 s.seal_.a14, .int .u8 s.seal_.a15]
def StampV.val (s : StampV) : Value := .agg s.cells.toArray
end Go.Proofs.YtmlhecjhjjlhfaaGreatDoor
namespace Go.Proofs.YtmlhecjhjjlhfaaGreatDoor
open Go.RowKit Go.Sort
set_option linter.unusedVariables false
set_option linter.unusedSimpArgs false
set_option maxRecDepth 100000
theorem RuleM.val_eq (x : RuleM) : x.val = .agg #[.string x.r.name, .string x.r.pat, .slice x.T x.r.tags.length x.ct, .int .i64 x.r.fresh, .int .i64 x.r.stale, .int .i64 x.r.down, .int .i64 x.r.neg, .slice x.V x.r.vary.length x.cv,
  .int .i64 x.r.allow.fr, .int .i64 x.r.allow.till, .string x.r.allow.pat, .slice x.m.A x.r.allow.cl.length x.m.ca, .slice x.m.B x.r.allow.co.length x.m.cb, .slice x.m.S x.r.allow.si.length x.m.cs, .int .i64 x.r.allow.us, .bool x.r.signed, .int .i64 x.r.cost, .string x.r.prog] := rfl
open Go.Maps
theorem StampV.val_eq (s : StampV) : s.val = .agg #[.string s.addr, .string s.variant, .int .i64 s.status, .int .i64 s.size, .int .u8 s.body.a0, .int .u8 s.body.a1, .int .u8 s.body.a2, .int .u8 s.body.a3, .int .u8 s.body.a4, .int .u8 s.body.a5, .int .u8 s.body.a6, .int .u8 s.body.a7, .int .u8 s.body.a8, .int .u8 s.body.a9, .int .u8 s.body.a10, .int .u8 s.body.a11, .int .u8 s.body.a12, .int .u8 s.body.a13, .int .u8 s.body.a14, .int .u8 s.body.a15, .string s.tags, .int .i64 s.lo, .int .i64 s.hi, .int .i64 s.gate, .int .i64 s.serial, .int .u8 s.seal_.a0, .int .u8 s.seal_.a1, .int .u8 s.seal_.a2, .int .u8 s.seal_.a3, .int .u8 s.seal_.a4, .int .u8 s.seal_.a5, .int .u8 s.seal_.a6, .int .u8 s.seal_.a7, .int .u8 s.seal_.a8, .int .u8 s.seal_.a9, .int .u8 s.seal_.a10, .int .u8 s.seal_.a11, .int .u8 s.seal_.a12, .int .u8 s.seal_.a13, .int .u8 s.seal_.a14, .int .u8 s.seal_.a15] := rfl
end Go.Proofs.YtmlhecjhjjlhfaaGreatDoor
namespace Go.Proofs.YtmlhecjhjjlhfaaGreatDoor
open Go.RowKit Go.Sort
set_option linter.unusedVariables false
set_option linter.unusedSimpArgs false
set_option maxRecDepth 100000
theorem compact_one (x : BL) : Lib.compact (sortL [x]) = [x] := tagsL_compact [x] (List.pairwise_singleton _ _)
theorem tags_one (s : ByteArray) : tagsR [s] = if isNameB s then (s, 0) else (⟨#[]⟩, 1) := by
  have e : tagsL [s] = s.data.toList := by
    unfold tagsL
    show Lib.join (Lib.compact (sortL [s.data.toList])) [44] = _
    rw [compact_one, Lib.join_cons]
    simp [Lib.joinTail]
  unfold tagsR
  cases h : isNameB s
  · simp [h]
  · have hz := (word_ne (name_word h)).2.2.2
    rw [if_neg (by simp [h]), e, if_neg (by rw [← Lib.size_eq]; omega), if_pos rfl]
    exact congrArg (·, (0 : Int)) (bytes_ext (by simp [toB]))
theorem hasTag_iff (T p : ByteArray) : hasTagB T p = true ↔ p ∈ (splitR T).1 := Lib.containsS_iff _ _
def tagZ (ps : List ByteArray) : List BL := Lib.compact (sortL (lists ps))
theorem tagZ_spec (ps : List ByteArray) : (tagZ ps).Pairwise (· < ·) ∧ ∀ a, a ∈ tagZ ps ↔ a ∈ lists ps := by
  have tr : ∀ a b c : BL, decide (a ≤ b) = true → decide (b ≤ c) = true → decide (a ≤ c) = true := fun a b c h1 h2 => by simp only [decide_eq_true_eq] at *; exact List.le_trans h1 h2
  have tot : ∀ a b : BL, (decide (a ≤ b) || decide (b ≤ a)) = true := fun a b => by simp only [Bool.or_eq_true, decide_eq_true_eq]; exact List.le_total a b
  obtain ⟨h3, h4⟩ := compact_sorted (sortL (lists ps)) ((List.pairwise_mergeSort tr tot _).imp fun h => by simpa using h)
  exact ⟨h3, fun a => by unfold tagZ; rw [h4, sortL, (List.mergeSort_perm _ _).mem_iff]⟩
theorem tags_mem {ps : List ByteArray} {T : ByteArray} (h : tagsR ps = (T, 0)) (p : ByteArray) : hasTagB T p = true ↔ p ∈ ps := by
  refine ⟨fun hp => ?_, hasTag_tags h p⟩
  rw [hasTag_iff, splitR_tags h] at hp
  obtain ⟨a, ha, rfl⟩ := List.mem_map.1 hp
  have h2 := ((tagZ_spec ps).2 a).1 ha
  obtain ⟨q, hq, rfl⟩ := List.mem_map.1 h2
  have : toB q.data.toList = q := bytes_ext (by simp [toB])
  rw [this]; exact hq
theorem lt_irr (a : BL) : ¬ a < a := List.lt_irrefl a
theorem up_nodup {zs : List BL} (h : zs.Pairwise (· < ·)) : zs.Nodup := by
  unfold List.Nodup
  refine List.Pairwise.imp ?_ h
  intro a b hab e
  subst e
  exact lt_irr _ hab
theorem lens_erase (x : BL) : ∀ l : List BL, x ∈ l → Lib.lens l = x.length + Lib.lens (l.erase x)
  | [], h => by cases h
  | y :: l, h => by
    by_cases e : y = x
    · subst e
      rw [List.erase_cons_head]
      simp [Lib.lens]
    · rw [List.erase_cons_tail (by simpa using e)]
      have := lens_erase x l ((List.mem_cons.1 h).resolve_left (fun h => e h.symm))
      simp only [Lib.lens, List.map_cons, List.sum_cons] at this ⊢
      omega
theorem lens_sub (l named : List BL) (hn : l.Nodup) (hs : ∀ x ∈ l, x ∈ named) : Lib.lens l ≤ Lib.lens named ∧ l.length ≤ named.length := by
  induction l generalizing named with
  | nil => exact ⟨by simp [Lib.lens], by simp⟩
  | cons x l ih =>
    have hx := hs x (by simp)
    have h1 := List.length_erase_of_mem hx
    have hpos := List.length_pos_of_mem hx
    have h3 := lens_erase x named hx
    have h2 := ih (named.erase x) (List.nodup_cons.1 hn).2 (fun y hy => (List.mem_erase_of_ne (fun e => (List.nodup_cons.1 hn).1 (by rw [← e]; exact hy))).2 (hs y (by simp [hy])))
    refine ⟨?_, by rw [List.length_cons]; omega⟩
    simp only [Lib.lens, List.map_cons, List.sum_cons] at h2 h3 ⊢
    omega
theorem tags_few {ps : List ByteArray} (h : ∀ p ∈ ps, isNameB p = true) (hn : ps.length ≤ 60) : (tagsR ps).2 = 0 := by
  have h2 := join_bound (tagZ ps) (fun a ha => by
    obtain ⟨p, hp, rfl⟩ := List.mem_map.1 (((tagZ_spec ps).2 a).1 ha)
    have := (word_ne (name_word (h p hp))).2.2.2
    rw [Lib.size_eq] at this; exact this)
  have h3 := (lens_sub (tagZ ps) (lists ps) (up_nodup (tagZ_spec ps).1) (fun a ha => ((tagZ_spec ps).2 a).1 ha)).2
  rw [lists_len] at h3
  have e : (tagsL ps).length ≤ 4096 := by
    show (Lib.join (tagZ ps) [44]).length ≤ 4096
    omega
  unfold tagsR
  rw [if_neg, if_neg (by omega)]
  simp only [List.any_eq_true, not_exists]
  rintro p ⟨hp, hp2⟩
  rw [h p hp] at hp2
  exact absurd hp2 (by decide)
end Go.Proofs.YtmlhecjhjjlhfaaGreatDoor
namespace Go.Proofs.YtmlhecjhjjlhfaaGreatDoor
open Go.RowKit Go.Sort
set_option linter.unusedVariables false
set_option linter.unusedSimpArgs false
set_option maxRecDepth 100000
set_option maxHeartbeats 4000000 in
theorem polName_any (s : ByteArray) (w : World) (hs : s.size ≤ 4294967281) (hE : Env w) : Calls Tryz.prog 86 #[.string s] w (Ret w (.bool (isNameB s))) := by
  have ht := fun W (hR : Reads W 1 (some ⟨w.heap.size, 0, none⟩) 1 ([s].map .string)) => tags_any (some ⟨w.heap.size, 0, none⟩) 1 1 [s] W hR (by simp) (by intro p hp; rw [List.mem_singleton.1 hp]; exact hs)
  have hr : Reads (w.alloc (.cells #[.string s] 9)) 1 (some ⟨w.heap.size, 0, none⟩) 1 ([s].map .string) := by
    refine ⟨rfl, fun _ => ⟨_, _, rfl, fun j u hu => ?_⟩⟩
    rw [Nat.zero_add, cell_of_row _ _ _ _ _ _ (World.alloc_heap_new w (.cells #[.string s] 9))]
    simpa using hu
  have h1 := ht _ hr
  unfold tagsV at h1
  rw [tags_one] at h1
  clear ht hr
  by_cases hn : isNameB s = true
  · rw [if_pos hn] at h1
    have H1 := Lib.hid h1
    rw [hn]
    clear h1 hn
    go_enter Tryz.func86, Tryz.ntmps86
    go_wp2_with (go_at_call 81; refine H1.out.mono ?_; rintro e w2 ⟨rfl, hb2⟩)
    go_ret
    exact ⟨by simp, belB⟩
  · rw [if_neg hn] at h1
    have H1 := Lib.hid h1
    have hf : isNameB s = false := by simpa using hn
    rw [hf]
    clear h1 hn hf
    go_enter Tryz.func86, Tryz.ntmps86
    go_wp2_with (go_at_call 81; refine H1.out.mono ?_; rintro e w2 ⟨rfl, hb2⟩)
    go_ret
    exact ⟨by simp, belB⟩
end Go.Proofs.YtmlhecjhjjlhfaaGreatDoor
namespace Go.Proofs.YtmlhecjhjjlhfaaGreatDoor
open Go.RowKit Go.Sort
set_option linter.unusedVariables false
set_option linter.unusedSimpArgs false
set_option maxRecDepth 100000
def emptyR (c : CondV) : Bool × AskV × Int := if validC c then (if c.till ≤ c.fr then (true, noAsk, 0) else (false, sampleC c, 0)) else (false, noAsk, 1)
def impV (r : Bool × AskV × Int) : Value := .tuple #[.bool r.1, AskV.val r.2.1, .int .i64 r.2.2]
theorem CondReads.own {w : World} {fr till us : Int} {pat : ByteArray} {cl co : List ByteArray} {si : List Int} {m : CondMem} (h : CondReads w ⟨fr, till, pat, cl, co, si, us⟩ m) : CondReads w ⟨fr, till, pat, cl, co, si, us⟩ m := h
set_option maxHeartbeats 8000000 in
theorem empty_any (c : CondV) (m : CondMem) (w : World) (hR : CondReads w c m) (hc : CondFits c) (hE : Env w) : Calls Tryz.prog 38 #[CondMem.val c m] w (Ret w (impV (emptyR c))) := by
  have c1 := fun W (hb : Below w.heap.size w W) => condValid_any c m W (hR.keep hb) hc.p hc.cl hc.co hc.n1 hc.n2 hc.n3 (hE.keep hb)
  have c2 := fun W (hb : Below w.heap.size w W) => sample_any c m W (hR.keep hb) hc (hE.keep hb)
  obtain ⟨V, hV⟩ : ∃ V, V = impV (emptyR c) := ⟨_, rfl⟩
  rw [← hV]
  unfold impV emptyR at hV
  generalize sampleC c = s at *
  generalize validC c = vd at *
  obtain ⟨ad, kl, ko, st, lo, hi⟩ := s
  clear hR
  obtain ⟨fr, till, pat, cl, co, si, us⟩ := c
  obtain ⟨A, ca, B, cb, S, cs⟩ := m
  unfold CondMem.val at c1 c2 ⊢
  unfold AskV.val at c2
  dsimp only at c1 c2 hV ⊢
  have C1 := Lib.hid c1; have C2 := Lib.hid c2
  clear c1 c2 hE hc
  cases vd
  · obtain rfl : V = .tuple #[.bool false, .agg #[.string ⟨#[]⟩, .string ⟨#[]⟩, .string ⟨#[]⟩, .int .i64 0, .int .i64 0, .int .i64 0], .int .i64 1] := by rw [hV]; rfl
    clear hV
    go_enter Tryz.func38, Tryz.ntmps38
    go_wp2_with (first | (go_at_call 83; refine (C1.out _ belB).mono ?_; rintro e w2 ⟨rfl, hb2⟩; have hbw : Below w.heap.size w w2 := belB; (have hX2 : CBox w2 w.heap.size fr till pat A cl.length ca B co.length cb S si.length cs us := (by first | exact Blk.keep hX2 hb2 | exact Blk.keep (two_box _ _ _).1 hb2); have hY2 : ABox w2 (w.heap.size + 1) ⟨#[]⟩ ⟨#[]⟩ ⟨#[]⟩ 0 0 0 := (by first | exact Blk.keep hY2 hb2 | exact Blk.keep (two_box _ _ _).2 hb2); (try clear x0 x1 x2 x3 x4 x5 x6 y0 y1 y2 y3 y4 y5 z0 z1 z2 z3 z4 z5); obtain ⟨x0, x1, x2, x3, x4, x5, x6⟩ := hX2.facts; obtain ⟨y0, y1, y2, y3, y4, y5⟩ := hY2.facts; have z0 := hY2.free0 0; have z1 := hY2.free0 1; have z2 := hY2.free0 2; have z3 := hY2.free0 3; have z4 := hY2.free0 4; have z5 := hY2.free0 5)) | (go_at_call 84; refine (C2.out _ hbw).mono ?_; rintro e w2 ⟨rfl, hb2⟩; replace hbw := bstep hbw hb2; (have hX2 : CBox w2 w.heap.size fr till pat A cl.length ca B co.length cb S si.length cs us := (by first | exact Blk.keep hX2 hb2 | exact Blk.keep (two_box _ _ _).1 hb2); have hY2 : ABox w2 (w.heap.size + 1) ⟨#[]⟩ ⟨#[]⟩ ⟨#[]⟩ 0 0 0 := (by first | exact Blk.keep hY2 hb2 | exact Blk.keep (two_box _ _ _).2 hb2); (try clear x0 x1 x2 x3 x4 x5 x6 y0 y1 y2 y3 y4 y5 z0 z1 z2 z3 z4 z5); obtain ⟨x0, x1, x2, x3, x4, x5, x6⟩ := hX2.facts; obtain ⟨y0, y1, y2, y3, y4, y5⟩ := hY2.facts; have z0 := hY2.free0 0; have z1 := hY2.free0 1; have z2 := hY2.free0 2; have z3 := hY2.free0 3; have z4 := hY2.free0 4; have z5 := hY2.free0 5)))
    (obtain ⟨p0, p1, p2, p3, p4, p5⟩ := (hY2.put ⟨#[]⟩ ⟨#[]⟩ ⟨#[]⟩ 0 0 0).facts; clear x0 x1 x2 x3 x4 x5 x6 y0 y1 y2 y3 y4 y5 z0 z1 z2 z3 z4 z5)
    exact bodyPost_ret (v := .tuple #[.bool false, .agg #[.string ⟨#[]⟩, .string ⟨#[]⟩, .string ⟨#[]⟩, .int .i64 0, .int .i64 0, .int .i64 0], .int .i64 1]) (by simp only [results, Tryz.results38]; simp [go_sem, p0, p1, p2, p3, p4, p5]) rfl ⟨rfl, below_put6 hbw (Nat.le_succ _) _ _ _ _ _ _⟩
  by_cases ht : till ≤ fr
  · obtain rfl : V = .tuple #[.bool true, .agg #[.string ⟨#[]⟩, .string ⟨#[]⟩, .string ⟨#[]⟩, .int .i64 0, .int .i64 0, .int .i64 0], .int .i64 0] := by rw [hV]; simp only [ht, if_true]; rfl
    have d1 : decide (till ≤ fr) = true := decide_eq_true ht
    clear hV
    go_enter Tryz.func38, Tryz.ntmps38
    go_wp2_with (first | (go_at_call 83; refine (C1.out _ belB).mono ?_; rintro e w2 ⟨rfl, hb2⟩; have hbw : Below w.heap.size w w2 := belB; (have hX2 : CBox w2 w.heap.size fr till pat A cl.length ca B co.length cb S si.length cs us := (by first | exact Blk.keep hX2 hb2 | exact Blk.keep (two_box _ _ _).1 hb2); have hY2 : ABox w2 (w.heap.size + 1) ⟨#[]⟩ ⟨#[]⟩ ⟨#[]⟩ 0 0 0 := (by first | exact Blk.keep hY2 hb2 | exact Blk.keep (two_box _ _ _).2 hb2); (try clear x0 x1 x2 x3 x4 x5 x6 y0 y1 y2 y3 y4 y5 z0 z1 z2 z3 z4 z5); obtain ⟨x0, x1, x2, x3, x4, x5, x6⟩ := hX2.facts; obtain ⟨y0, y1, y2, y3, y4, y5⟩ := hY2.facts; have z0 := hY2.free0 0; have z1 := hY2.free0 1; have z2 := hY2.free0 2; have z3 := hY2.free0 3; have z4 := hY2.free0 4; have z5 := hY2.free0 5)) | (go_at_call 84; refine (C2.out _ hbw).mono ?_; rintro e w2 ⟨rfl, hb2⟩; replace hbw := bstep hbw hb2; (have hX2 : CBox w2 w.heap.size fr till pat A cl.length ca B co.length cb S si.length cs us := (by first | exact Blk.keep hX2 hb2 | exact Blk.keep (two_box _ _ _).1 hb2); have hY2 : ABox w2 (w.heap.size + 1) ⟨#[]⟩ ⟨#[]⟩ ⟨#[]⟩ 0 0 0 := (by first | exact Blk.keep hY2 hb2 | exact Blk.keep (two_box _ _ _).2 hb2); (try clear x0 x1 x2 x3 x4 x5 x6 y0 y1 y2 y3 y4 y5 z0 z1 z2 z3 z4 z5); obtain ⟨x0, x1, x2, x3, x4, x5, x6⟩ := hX2.facts; obtain ⟨y0, y1, y2, y3, y4, y5⟩ := hY2.facts; have z0 := hY2.free0 0; have z1 := hY2.free0 1; have z2 := hY2.free0 2; have z3 := hY2.free0 3; have z4 := hY2.free0 4; have z5 := hY2.free0 5)))
    (obtain ⟨p0, p1, p2, p3, p4, p5⟩ := (hY2.put ⟨#[]⟩ ⟨#[]⟩ ⟨#[]⟩ 0 0 0).facts; clear x0 x1 x2 x3 x4 x5 x6 y0 y1 y2 y3 y4 y5 z0 z1 z2 z3 z4 z5)
    exact bodyPost_ret (v := .tuple #[.bool true, .agg #[.string ⟨#[]⟩, .string ⟨#[]⟩, .string ⟨#[]⟩, .int .i64 0, .int .i64 0, .int .i64 0], .int .i64 0]) (by simp only [results, Tryz.results38]; simp [go_sem, p0, p1, p2, p3, p4, p5]) rfl ⟨rfl, below_put6 hbw (Nat.le_succ _) _ _ _ _ _ _⟩
  · obtain rfl : V = .tuple #[.bool false, .agg #[.string ad, .string kl, .string ko, .int .i64 st, .int .i64 lo, .int .i64 hi], .int .i64 0] := by rw [hV]; simp only [ht, if_true, if_false]; rfl
    have d1 : decide (till ≤ fr) = false := decide_eq_false ht
    clear hV
    go_enter Tryz.func38, Tryz.ntmps38
    go_wp2_with (first | (go_at_call 83; refine (C1.out _ belB).mono ?_; rintro e w2 ⟨rfl, hb2⟩; have hbw : Below w.heap.size w w2 := belB; (have hX2 : CBox w2 w.heap.size fr till pat A cl.length ca B co.length cb S si.length cs us := (by first | exact Blk.keep hX2 hb2 | exact Blk.keep (two_box _ _ _).1 hb2); have hY2 : ABox w2 (w.heap.size + 1) ⟨#[]⟩ ⟨#[]⟩ ⟨#[]⟩ 0 0 0 := (by first | exact Blk.keep hY2 hb2 | exact Blk.keep (two_box _ _ _).2 hb2); (try clear x0 x1 x2 x3 x4 x5 x6 y0 y1 y2 y3 y4 y5 z0 z1 z2 z3 z4 z5); obtain ⟨x0, x1, x2, x3, x4, x5, x6⟩ := hX2.facts; obtain ⟨y0, y1, y2, y3, y4, y5⟩ := hY2.facts; have z0 := hY2.free0 0; have z1 := hY2.free0 1; have z2 := hY2.free0 2; have z3 := hY2.free0 3; have z4 := hY2.free0 4; have z5 := hY2.free0 5)) | (go_at_call 84; refine (C2.out _ hbw).mono ?_; rintro e w2 ⟨rfl, hb2⟩; replace hbw := bstep hbw hb2; (have hX2 : CBox w2 w.heap.size fr till pat A cl.length ca B co.length cb S si.length cs us := (by first | exact Blk.keep hX2 hb2 | exact Blk.keep (two_box _ _ _).1 hb2); have hY2 : ABox w2 (w.heap.size + 1) ⟨#[]⟩ ⟨#[]⟩ ⟨#[]⟩ 0 0 0 := (by first | exact Blk.keep hY2 hb2 | exact Blk.keep (two_box _ _ _).2 hb2); (try clear x0 x1 x2 x3 x4 x5 x6 y0 y1 y2 y3 y4 y5 z0 z1 z2 z3 z4 z5); obtain ⟨x0, x1, x2, x3, x4, x5, x6⟩ := hX2.facts; obtain ⟨y0, y1, y2, y3, y4, y5⟩ := hY2.facts; have z0 := hY2.free0 0; have z1 := hY2.free0 1; have z2 := hY2.free0 2; have z3 := hY2.free0 3; have z4 := hY2.free0 4; have z5 := hY2.free0 5)))
    obtain ⟨p0, p1, p2, p3, p4, p5⟩ := (hY2.put ad kl ko st lo hi).facts
    clear x0 x1 x2 x3 x4 x5 x6 y0 y1 y2 y3 y4 y5 z0 z1 z2 z3 z4 z5
    exact bodyPost_ret (v := .tuple #[.bool false, .agg #[.string ad, .string kl, .string ko, .int .i64 st, .int .i64 lo, .int .i64 hi], .int .i64 0]) (by simp only [results, Tryz.results38]; simp [go_sem, p0, p1, p2, p3, p4, p5]) rfl ⟨rfl, below_put6 hbw (Nat.le_succ _) _ _ _ _ _ _⟩
end Go.Proofs.YtmlhecjhjjlhfaaGreatDoor
namespace Go.Proofs.YtmlhecjhjjlhfaaGreatDoor
open Go.RowKit Go.Sort
set_option linter.unusedVariables false
set_option linter.unusedSimpArgs false
set_option maxRecDepth 100000
theorem digit_of (d : Nat) (h : d < 10) : Lib.digitVal (UInt8.ofNat (48 + d)) = some d := by
  unfold Lib.digitVal
  have e : (UInt8.ofNat (48 + d)).toNat = 48 + d := by rw [UInt8.toNat_ofNat']; omega
  rw [e, if_pos (by omega)]
  congr 1; omega
theorem dec_back (u : Nat) : ∀ (acc : Nat) (r : List UInt8), Lib.decFrom acc (Lib.decDigits u ++ r) = Lib.decFrom (acc * 10 ^ Lib.nDigits u + u) r := by
  induction u using Nat.strongRecOn with
  | _ u ih =>
    intro acc r
    by_cases h : u < 10
    · rw [Lib.decDigits, dif_pos h, Lib.nDigits_small h]
      simp only [List.cons_append, List.nil_append, Lib.decFrom, digit_of u h, Nat.pow_one]
    · rw [Lib.decDigits, dif_neg h, Lib.nDigits_big h, List.append_assoc, ih (u / 10) (by omega)]
      simp only [List.cons_append, List.nil_append, Lib.decFrom, digit_of (u % 10) (by omega)]
      congr 1
      rw [Nat.pow_succ, Nat.add_mul, ← Nat.mul_assoc]
      omega
theorem dec_digit (u : Nat) : ∀ b ∈ Lib.decDigits u, 48 ≤ b.toNat ∧ b.toNat ≤ 57 := by
  induction u using Nat.strongRecOn with
  | _ u ih =>
    intro b hb
    by_cases h : u < 10
    · rw [Lib.decDigits, dif_pos h, List.mem_singleton] at hb
      subst hb
      rw [UInt8.toNat_ofNat']; omega
    · rw [Lib.decDigits, dif_neg h, List.mem_append, List.mem_singleton] at hb
      rcases hb with hb | rfl
      · exact ih (u / 10) (by omega) b hb
      · rw [UInt8.toNat_ofNat']; omega
theorem nd_le : ∀ (k u : Nat), u < 10 ^ (k + 1) → Lib.nDigits u ≤ k + 1
  | 0, u, h => by rw [Lib.nDigits_small (by simpa using h)]; omega
  | k + 1, u, h => by
    by_cases h1 : u < 10
    · rw [Lib.nDigits_small h1]; omega
    · rw [Lib.nDigits_big h1]
      have := nd_le k (u / 10) (by rw [Nat.pow_succ] at h; omega)
      omega
theorem dec_len (u : Nat) (h : u ≤ 1099511627777) : (Lib.decDigits u).length ≤ 13 ∧ 1 ≤ (Lib.decDigits u).length := by
  rw [Lib.decDigits_length]
  exact ⟨nd_le 12 u (by omega), Lib.nDigits_pos u⟩
theorem itoa_dec (n : Int) (h : 0 ≤ n) : (itoaB n).data.toList = Lib.decDigits n.toNat := by
  unfold itoaB Lib.itoa
  rw [if_neg (by omega)]
theorem dec_zero (u : Nat) : Lib.decFrom 0 (Lib.decDigits u) = some u := by
  have := dec_back u 0 []
  rw [List.append_nil] at this
  rw [this]
  simp [Lib.decFrom]
end Go.Proofs.YtmlhecjhjjlhfaaGreatDoor
namespace Go.Proofs.YtmlhecjhjjlhfaaGreatDoor
open Go.RowKit Go.Sort
set_option linter.unusedVariables false
set_option linter.unusedSimpArgs false
set_option maxRecDepth 100000
theorem ABox.set0 {w : World} {g : Nat} {ad ad2 cl co : ByteArray} {si lo hi : Int} (h : ABox w g ad cl co si lo hi) : ABox (w.setCell ⟨g, 0, none⟩ (.string ad2)) g ad2 cl co si lo hi := Blk.set_ h 0 (.string ad2)
end Go.Proofs.YtmlhecjhjjlhfaaGreatDoor
