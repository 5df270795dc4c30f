/- Rules and ways to vary: their values, how they lie in memory. -/
import Derived.Test.YtmlhecjhjjlhfaaGreatDoorSZ4
import Derived.Test.YtmlhecjhjjlhfaaGreatDoorSZ15
import Derived.Test.YtmlhecjhjjlhfaaGreatDoorProg
import Derived.WalkKit
import Derived.WalkSpells
import Derived.WalkLawsBesides
import Derived.Below
import Derived.Deep.QuietTactic
import Derived.BigQuiet
import Derived.Lib.QuietBelow
import Derived.Lib.Strings
import Derived.Lib.Hide
import Derived.Deep.RegionWith
import Derived.Deep.RegionHeld3
import Derived.Lib.IndexBytes
import Derived.Test.YtmlhecjhjjlhfaaGreatDoorSZ14
import Derived.OwnWalk
import Derived.Test.YtmlhecjhjjlhfaaGreatDoorSZ3
import Derived.LoopTactic
import Derived.Test.YtmlhecjhjjlhfaaGreatDoorSZ13
import Derived.Test.YtmlhecjhjjlhfaaGreatDoorSZ12
namespace Go.Proofs.YtmlhecjhjjlhfaaGreatDoor
open Go.RowKit Go.Sort
set_option linter.unusedVariables false
set_option linter.unusedSimpArgs false
set_option maxRecDepth 100000
structure VaryV where
  header : ByteArray
  values : List ByteArray
  dflt : ByteArray
structure VaryM where
  v : VaryV
  A : Option Addr
  c : Nat
def VaryM.cells (x : VaryM) : List Value := [.string x.v.header, .slice x.A x.v.values.length x.c, .string x.v.dflt]
def VaryReads (w : World) (x : VaryM) : Prop := Reads w 1 x.A x.v.values.length (x.v.values.map .string)
theorem VaryReads.keep {w w' : World} {x : VaryM} (h : VaryReads w x) (hb : Below w.heap.size w w') : VaryReads w' x := Reads.keep h hb
structure RuleV where
  name : ByteArray
  pat : ByteArray
  tags : List ByteArray
  fresh : Int
  stale : Int
  down : Int
  neg : Int
  vary : List VaryV
  allow : CondV
  signed : Bool
  cost : Int
  prog : ByteArray
structure RuleM where
  r : RuleV
  T : Option Addr
  ct : Nat
  V : Option Addr
  cv : Nat
  L : List VaryM
  m : CondMem
def RuleM.cells (x : RuleM) : List Value := [.string x.r.name, .string x.r.pat, .slice x.T x.r.tags.length x.ct, .int .i64 x.r.fresh, .int .i64 x.r.stale, .int .i64 x.r.down, .int .i64 x.r.neg, .slice x.V x.r.vary.length x.cv,
  .int .i64 x.r.allow.fr, .int .i64 x.r.allow.till, .string x.r.allow.pat, .slice x.m.A x.r.allow.cl.length x.m.ca, .slice x.m.B x.r.allow.co.length x.m.cb, .slice x.m.S x.r.allow.si.length x.m.cs, .int .i64 x.r.allow.us, .bool x.r.signed, .int .i64 x.r.cost, .string x.r.prog]
def RuleM.val (x : RuleM) : Value := .agg x.cells.toArray
structure RuleReads (w : World) (x : RuleM) : Prop where
  tags : Reads w 1 x.T x.r.tags.length (x.r.tags.map .string)
  vary : Reads w 3 x.V x.r.vary.length (x.L.flatMap VaryM.cells)
  same : x.L.map (·.v) = x.r.vary
  each : ∀ y ∈ x.L, VaryReads w y
  allow : CondReads w x.r.allow x.m
theorem RuleReads.keep {w w' : World} {x : RuleM} (h : RuleReads w x) (hb : Below w.heap.size w w') : RuleReads w' x :=
  ⟨h.tags.keep hb, h.vary.keep hb, h.same, fun y hy => (h.each y hy).keep hb, h.allow.keep hb⟩
theorem VaryM.cells_len (x : VaryM) : x.cells.length = 3 := rfl
theorem RuleM.cells_len (x : RuleM) : x.cells.length = 18 := rfl
structure RulesRead (w : World) (A : Option Addr) (n : Nat) (L : List RuleM) : Prop where
  len : L.length = n
  rows : Reads w 18 A n (L.flatMap RuleM.cells)
  each : ∀ x ∈ L, RuleReads w x
theorem RulesRead.keep {w w' : World} {A : Option Addr} {n : Nat} {L : List RuleM} (h : RulesRead w A n L) (hb : Below w.heap.size w w') : RulesRead w' A n L := ⟨h.len, h.rows.keep hb, fun x hx => (h.each x hx).keep hb⟩
theorem RulesRead.at_ {w : World} {A : Option Addr} {n k : Nat} {L : List RuleM} {x : RuleM} (h : RulesRead w A n L) (hk : L[k]? = some x) :
    RuleReads w x ∧ ∃ b o, A = some ⟨b, o, none⟩ ∧ ∀ j u, x.cells[j]? = some u → w.cell? ⟨b, o + k * 18 + j, none⟩ = some u :=
  ⟨h.each x (List.mem_of_getElem? hk), Reads.row h.rows (fun a _ => a.cells_len) h.len hk⟩
end Go.Proofs.YtmlhecjhjjlhfaaGreatDoor
namespace Go.Proofs.YtmlhecjhjjlhfaaGreatDoor
open Go.RowKit Go.Sort
set_option linter.unusedVariables false
set_option linter.unusedSimpArgs false
set_option maxRecDepth 100000
theorem valid_any (s : ByteArray) (w : World) (hs : s.size ≤ 100000) (hE : Env w) : Calls Tryz.prog 33 #[.string s] w (Ret w (.bool (compileB s).isSome)) := by
  have cC := compile_any s w hs hE
  generalize compileB s = r at *
  have HC := Lib.hid cC
  clear cC
  cases r with
  | none =>
    go_enter Tryz.func33, Tryz.ntmps33
    go_wp2_with (go_at_call 28; refine HC.out.mono ?_; rintro e w1 ⟨hb1, k, t, A, n, c, b, rfl⟩)
    go_ret
    exact ⟨rfl, belB⟩
  | some p =>
    go_enter Tryz.func33, Tryz.ntmps33
    go_wp2_with (go_at_call 28; refine HC.out.mono ?_; rintro e w1 ⟨hb1, A, c, rfl, hR⟩)
    go_ret
    exact ⟨rfl, belB⟩
theorem partCells_at (qs : List Part) : ∀ (k : Nat) (q : Part), qs[k]? = some q → (partCells qs)[k * 2]? = some (.int .i64 q.kind) ∧ (partCells qs)[k * 2 + 1]? = some (.string q.text) := by
  induction qs with
  | nil => intro k q h; simp at h
  | cons a qs ih =>
    intro k q h
    cases k with
    | zero => simp at h; subst h; simp [partCells]
    | succ k =>
      have := ih k q (by simpa using h)
      rw [show (k + 1) * 2 = k * 2 + 2 by omega]
      simpa [partCells] using this
theorem partCells_length (qs : List Part) : (partCells qs).length = qs.length * 2 := by induction qs <;> simp_all [partCells]; omega
def wordsL (ps : List Part) : List ByteArray := ps.map fun p => withP p.kind p.text ⟨#[97]⟩
def PartsOk (ps : List Part) : Prop := ∀ p ∈ ps, p.kind ≤ 2 ∧ p.text.size ≤ 100000
set_option maxHeartbeats 4000000 in
theorem words_any (kd : Nat) (tx : ByteArray) (A : Option Addr) (n c : Nat) (tl : Bool) (ps : List Part) (w : World) (hR : Reads w 2 A n (partCells ps)) (hok : PartsOk ps) (hn : n ≤ 100000) :
    Calls Tryz.prog 60 #[.agg #[.int .i64 kd, .string tx, .slice A n c, .bool tl]] w fun e w' => ∃ A' c', e = .returned (.slice A' n c') ∧ w'.ownsRow w.heap.size 9 1 (.slice A' n c') n ((wordsL ps).map .string) ∧ Below w.heap.size w w' := by
  have hpn : ps.length = n := by have := hR.1; rw [partCells_length] at this; omega
  obtain ⟨i0, hi0, hz0, hz1, hz2⟩ := info_parts infoStr
  have HI : Hid ((Tryz.prog.info? 9 = some i0) ∧ i0.zero = some (.string ⟨#[]⟩) ∧ i0.size = 1 ∧ i0.bytes = 16) := Lib.hid ⟨hi0, hz0, hz1, hz2⟩
  have HOK := Lib.hid hok
  have HR := Lib.hid hR
  have HPN := Lib.hid hpn
  clear hi0 hz0 hz1 hz2 hok hR hpn
  go_enter Tryz.func60, Tryz.ntmps60
  go_wp2_with fail
  go_loopw [3, 9] (fun va vi wr => ∃ (k : Nat) (A' : Option Addr) (c' : Nat), (va = .slice A' k c' ∧ vi = .int .i64 k ∧ k ≤ n) ∧ wr.ownsRow w.heap.size 9 1 (.slice A' k c') k (((wordsL ps).take k).map .string) ∧ Below w.heap.size w wr) (fun _ vi _ => n - (intOf vi).toNat)
  case atStart => exact ⟨0, none, 0, ⟨rfl, rfl, Nat.zero_le _⟩, World.ownsRow_nil _ _ _ _, balloc (Below.refl _ _) _⟩
  case round =>
    obtain ⟨k, A', c', ⟨rfl, rfl, hk⟩, hown, hbr⟩ := hrel
    by_cases hlt : k < n
    · obtain ⟨p, hp⟩ : ∃ p, ps[k]? = some p := ⟨_, List.getElem?_eq_getElem (by have := HPN.out; omega)⟩
      obtain ⟨hpk, hpt⟩ := HOK.out p (List.mem_of_getElem? hp)
      obtain ⟨pb, po, rfl, hcell⟩ := (HR.out.keep hbr).2 (by omega)
      obtain ⟨e1, e2⟩ := partCells_at ps k p hp
      have hc1 : wr.cell? ⟨pb, po + k * 2, none⟩ = _ := hcell _ _ e1
      have hc2 : wr.cell? ⟨pb, po + k * 2 + 1, none⟩ = _ := hcell _ _ e2
      have hwl : (wordsL ps)[k]? = some (withP p.kind p.text ⟨#[97]⟩) := by simp [wordsL, hp]
      have htk : (wordsL ps).take (k + 1) = (wordsL ps).take k ++ [withP p.kind p.text ⟨#[97]⟩] := by rw [List.take_add_one, hwl]; rfl
      have HTK := Lib.hid htk
      have cW := fun W => with_any p.kind p.text ⟨#[97]⟩ W (by decide) (by omega) hpk
      clear hp hcell e1 e2 hwl htk
      generalize withP p.kind p.text ⟨#[97]⟩ = x at *
      obtain ⟨pk, pt⟩ := p
      dsimp only at *
      have HW := Lib.hid cW
      clear cW
      go_wp2_with (first | (go_at_call 59; refine (HW.out _).mono ?_; rintro e w2 ⟨rfl, hb2⟩) | (at_builtin; refine wpList_append_own _ rfl _ _ 32 rfl w.heap.size 9 i0 (.string ⟨#[]⟩) 1 16 Tryz.underlying32 HI.out.1 HI.out.2.1 HI.out.2.2.1 HI.out.2.2.2 rfl (by decide) _ _ _ rfl ((ownsRow_keep (hown.alloc _) hb2).alloc _) ⟨w2.heap.size, 0, none⟩ 1 1 [.string x] rfl rfl (cell_one_new _ _ _) (by simp [Value.oneCell']) (by unfold maxLen; omega) (by omega) (by have := hb2.size; have := hbr.size; simp at *; omega) ?_; intro v' w3 hown' hgrow _; obtain ⟨g', cap', rfl⟩ := ownsRow_succ hown'))
      refine ⟨⟨k + 1, some ⟨g', 0, none⟩, cap', ⟨rfl, by go_num, by omega⟩, ?_, ?_⟩, by simp [intOf]; omega⟩
      · rw [HTK.out, List.map_append]; exact hown'
      · have h1 := hbr.size
        have h2 := hb2.size
        simp at h2
        exact ((hbr.trans (blater _ hb2 |>.mono h1)).alloc (by omega) _).grown hgrow (by simp; omega) (fun r e => ownsRow_block hown r e)
    · obtain rfl : k = n := by omega
      go_wp2
      go_ret
      exact ⟨A', c', rfl, by have : (wordsL ps).take k = wordsL ps := List.take_of_length_le (by simp [wordsL]; have := HPN.out; omega)
                             rw [this] at hown; exact hown, hbr⟩
theorem lens_le' (B : Nat) : ∀ l : List (List UInt8), (∀ x ∈ l, x.length ≤ B) → Lib.lens l ≤ l.length * B
  | [], _ => by simp [Lib.lens]
  | x :: l, h => by
    have h1 := h x (by simp)
    have h2 := lens_le' B l (fun y hy => h y (by simp [hy]))
    simp only [Lib.lens, List.map_cons, List.sum_cons, List.length_cons] at h2 ⊢
    rw [Nat.succ_mul]
    omega
def joinS (ws : List ByteArray) : ByteArray := toB (Lib.join (lists ws) [47])
theorem join_any (g n c : Nat) (ws : List ByteArray) (W : World) (base : Nat) (hown : W.ownsRow base 9 1 (.slice (some ⟨g, 0, none⟩) n c) n (ws.map .string)) (hn : n ≤ 100100) (hsz : ∀ x ∈ ws, x.size ≤ 200000) :
    Calls Tryz.prog 75 #[.slice (some ⟨g, 0, none⟩) n c, .string ⟨#[47]⟩] W (Ret W (.string (joinS ws))) := by
  have hl : ws.length = n := by have := hown.1; simpa using this
  rcases hown.2 with ⟨h, _⟩ | ⟨g', cap, cur, he, hb, hh, h1, h2, h3, h4⟩
  · cases h
  · injection he with e1 e2 e3
    injection e1 with e1
    injection e1 with e1
    subst e1; subst e3
    have hcells := World.ownsRow.cells hown (g := g) rfl
    have hlen : (Lib.join (lists ws) [47]).length ≤ 140737488355328 := by
      cases ws with
      | nil => simp [lists, Lib.join_nil]
      | cons x r =>
        have hx := hsz x (by simp)
        have hr := lens_le' 200000 (lists r) (by
          intro y hy
          obtain ⟨z, hz, rfl⟩ := List.mem_map.1 hy
          have := hsz z (by simp [hz]); rw [Lib.size_eq] at this; exact this)
        rw [Lib.size_eq] at hx
        simp only [lists, List.map_cons] at hr ⊢
        rw [Lib.join_cons, List.length_append, Lib.joinTail_length]
        simp only [List.length_singleton, List.length_cons, List.length_map, List.length_nil, Nat.zero_add, Nat.one_mul] at hr hl ⊢
        omega
    have := Tryz.strings_Join g 0 c ws ⟨#[47]⟩ W (by
      intro j x hx
      have := hcells j (.string x) (by simp [hx])
      unfold Addr.add at this; split at this <;> simp_all) ((Array.getElem?_eq_some_iff.1 hh).1) (by omega) (by omega) hlen
    rw [hl] at this
    exact this
theorem ownsRow_one (w : World) (x : ByteArray) : (w.alloc (.cells #[.string x] 9)).ownsRow w.heap.size 9 1 (.slice (some ⟨w.heap.size, 0, none⟩) 1 1) 1 [.string x] :=
  ⟨rfl, .inr ⟨w.heap.size, 1, #[.string x], rfl, Nat.le_refl _, World.alloc_heap_new _ _, Nat.le_refl _, by unfold maxLen; omega, rfl, rfl⟩⟩
set_option maxHeartbeats 2000000 in
theorem example_any (cu : ByteArray) (A : Option Addr) (n c : Nat) (ws : List ByteArray) (w : World) (hR : Reads w 1 A n (ws.map .string)) (hn : n ≤ 100000) (hcu : cu.size ≤ 200000) (hsz : ∀ x ∈ ws, x.size ≤ 200000) :
    Calls Tryz.prog 58 #[.string cu, .slice A n c] w (Ret w (.string (joinS (cu :: ws)))) := by
  have hl : ws.length = n := by have := hR.1; simpa using this
  obtain ⟨i0, hi0, hz0, hz1, hz2⟩ := info_parts infoStr
  have HI : Hid ((Tryz.prog.info? 9 = some i0) ∧ i0.zero = some (.string ⟨#[]⟩) ∧ i0.size = 1 ∧ i0.bytes = 16) := Lib.hid ⟨hi0, hz0, hz1, hz2⟩
  clear hi0 hz0 hz1 hz2
  have hsz' : ∀ x ∈ cu :: ws, x.size ≤ 200000 := by
    intro x hx
    rcases List.mem_cons.1 hx with rfl | hx
    · exact hcu
    · exact hsz x hx
  have HS := Lib.hid hsz'
  by_cases h0 : A = none
  · subst h0
    have hn0 : n = 0 := by
      rcases Nat.eq_zero_or_pos n with h | h
      · exact h
      · obtain ⟨_, _, h, _⟩ := hR.2 h; cases h
    subst hn0
    have hws : ws = [] := List.eq_nil_of_length_eq_zero hl
    subst hws
    have cJ := join_any w.heap.size 1 1 [cu] _ _ (ownsRow_one w cu) (by omega) HS.out
    go_enter Tryz.func58, Tryz.ntmps58
    go_wp2_with (go_at_call 75; refine cJ.mono ?_; rintro e w2 ⟨rfl, hb2⟩)
    go_ret
    exact ⟨rfl, belB⟩
  · obtain ⟨ad, rfl⟩ := Option.ne_none_iff_exists'.1 h0
    have hnews : ∀ j u, (ws.map Value.string)[j]? = some u → (w.alloc (.cells #[.string cu] 9)).cell? (ad.add j) = some u := by
      intro j u hu
      have hjl := (List.getElem?_eq_some_iff.1 hu).1
      obtain ⟨b, o, he, hc⟩ := hR.2 (by simp at hjl; omega)
      injection he with he; subst he
      rw [Addr.add_lit]
      exact cell_keep (balloc (Below.refl _ w) _) (hc j u hu)
    have HN := Lib.hid hnews
    have HL := Lib.hid hl
    clear hnews hR h0 hl hsz'
    go_enter Tryz.func58, Tryz.ntmps58
    go_wp2_with (at_builtin; refine wpList_append_own _ rfl _ _ 32 rfl w.heap.size 9 i0 (.string ⟨#[]⟩) 1 16 Tryz.underlying32 HI.out.1 HI.out.2.1 HI.out.2.2.1 HI.out.2.2.2 rfl (by decide) _ _ _ rfl (ownsRow_one w cu) ad n c (ws.map .string) rfl (by have := HL.out; simp; omega) HN.out (by intro u hu; obtain ⟨x, _, rfl⟩ := List.mem_map.1 hu; rfl) (by unfold maxLen; omega) (by omega) (by simp) ?_; intro v' w3 hown' hgrow hnil)
    obtain ⟨A', c', rfl⟩ : ∃ A' c', v' = .slice (some ⟨A', 0, none⟩) (1 + n) c' := by
      rcases hown'.2 with ⟨h, h2⟩ | ⟨g, cap, cur, h, _⟩
      · omega
      · exact ⟨_, _, h⟩
    have cJ := join_any A' (1 + n) c' (cu :: ws) w3 w.heap.size hown' (by omega) HS.out
    have hb3 := (balloc (Below.refl _ w) (.cells #[.string cu] 9)).grown hgrow (by simp) (fun r e => ownsRow_block (ownsRow_one w cu) r e)
    clear hgrow hown' hnil
    go_wp2_with (go_at_call 75; refine cJ.mono ?_; rintro e w4 ⟨rfl, hb4⟩)
    go_ret
    exact ⟨rfl, belB⟩
def strL (ps : List Part) : List ByteArray := ps.map fun p => stringP p.kind p.text
def patS (p : Pat) : ByteArray := joinS (stringP p.cust.kind p.cust.text :: strL p.parts ++ (if p.tail then [⟨#[42, 42]⟩] else []))
theorem stringP_size (k : Nat) (t : ByteArray) : (stringP k t).size ≤ t.size + 1 := by
  unfold stringP; split
  · omega
  · rw [ByteArray.size_append]; have : (⟨#[42]⟩ : ByteArray).size = 1 := rfl; omega
set_option maxHeartbeats 4000000 in
theorem patString_any (kd : Nat) (tx : ByteArray) (A : Option Addr) (n c : Nat) (tl : Bool) (ps : List Part) (w : World) (hR : Reads w 2 A n (partCells ps)) (hok : PartsOk ps) (hn : n ≤ 100000) (hkd : kd ≤ 2) (htx : tx.size ≤ 100000) :
    Calls Tryz.prog 85 #[.agg #[.int .i64 kd, .string tx, .slice A n c, .bool tl]] w (Ret w (.string (patS ⟨⟨kd, tx⟩, ps, tl⟩))) := by
  have hpn : ps.length = n := by have := hR.1; rw [partCells_length] at this; omega
  obtain ⟨i0, hi0, hz0, hz1, hz2⟩ := info_parts infoStr
  have HI : Hid ((Tryz.prog.info? 9 = some i0) ∧ i0.zero = some (.string ⟨#[]⟩) ∧ i0.size = 1 ∧ i0.bytes = 16) := Lib.hid ⟨hi0, hz0, hz1, hz2⟩
  have HOK := Lib.hid hok
  have HR := Lib.hid hR
  have HPN := Lib.hid hpn
  have c0 := fun W => stringP_any kd tx W (by omega) hkd
  have hs0 := stringP_size kd tx
  have hsl : ∀ x ∈ strL ps, x.size ≤ 200000 := by
    intro x hx
    obtain ⟨p, hp, rfl⟩ := List.mem_map.1 hx
    have h1 := stringP_size p.kind p.text
    have h2 := (hok p hp).2
    omega
  have HSL := Lib.hid hsl
  have hv : patS ⟨⟨kd, tx⟩, ps, tl⟩ = joinS (stringP kd tx :: strL ps ++ (if tl then [⟨#[42, 42]⟩] else [])) := rfl
  rw [hv]
  generalize stringP kd tx = s0 at *
  generalize hVe : joinS (s0 :: strL ps ++ (if tl then [⟨#[42, 42]⟩] else [])) = V
  have HV := Lib.hid hVe
  have HS0 : Hid (s0.size ≤ 200000) := Lib.hid (by omega)
  clear hVe hs0
  have H0 := Lib.hid c0
  clear hi0 hz0 hz1 hz2 hok hR hpn c0 hv hsl
  go_enter Tryz.func85, Tryz.ntmps85
  go_wp2_with (go_at_call 152; refine (H0.out _).mono ?_; rintro e w1 ⟨rfl, hb1⟩; obtain ⟨hc1, hf1⟩ := bcell hb1; have hz1_0 : w.heap.size < w1.heap.size := (by have := hb1.size; (try simp at this); omega))
  have hbp : Below w.heap.size w w1 := blater _ hb1
  have hX : Blk w1 w.heap.size 73 #[.int .i64 kd, .string tx, .slice A n c, .bool tl] (0, 0) := (hb1.block w.heap.size (by simp)).trans (World.alloc_heap_new _ _)
  have ho1 := ownsRow_one w1 s0
  have hX2 : Blk (w1.alloc (.cells #[.string s0] 9)) w.heap.size 73 #[.int .i64 kd, .string tx, .slice A n c, .bool tl] (0, 0) := Blk.keep hX (balloc (Below.refl _ _) _)
  have hb2 : Below w.heap.size w (w1.alloc (.cells #[.string s0] 9)) := balloc hbp _
  have hb21 : Below w1.heap.size w1 (w1.alloc (.cells #[.string s0] 9)) := balloc (Below.refl _ _) _
  obtain ⟨W0, hW0⟩ : ∃ W0, W0 = w1.alloc (.cells #[.string s0] 9) := ⟨_, rfl⟩
  have hzz : w.heap.size < w1.heap.size := by omega
  have hz0 : W0.heap.size = w1.heap.size + 1 := by rw [hW0]; simp
  rw [← hW0] at ho1 hX2 hb2 hb21 ⊢
  clear hW0 hc1 hf1
  go_loopw [3, 13] (fun va vi wr => ∃ (k : Nat) (A' : Nat) (c' : Nat), (va = .slice (some ⟨A', 0, none⟩) (k + 1) c' ∧ vi = .int .i64 k ∧ k ≤ n) ∧ wr.ownsRow w1.heap.size 9 1 (.slice (some ⟨A', 0, none⟩) (k + 1) c') (k + 1) ((s0 :: (strL ps).take k).map .string) ∧ Blk wr w.heap.size 73 #[.int .i64 kd, .string tx, .slice A n c, .bool tl] (0, 0) ∧ Below w1.heap.size w1 wr) (fun _ vi _ => n - (intOf vi).toNat)
  case atStart => exact ⟨0, w1.heap.size, 1, ⟨rfl, rfl, Nat.zero_le _⟩, by simpa using ho1, hX2, hb21⟩
  case round =>
    clear ho1 hX2 hb2 hb21 hz0 hX
    obtain ⟨k, A', c', ⟨rfl, rfl, hk⟩, hown, hX, hbr⟩ := hrel
    have x2 : wr.cell? ⟨w.heap.size, 2, none⟩ = some (.slice A n c) := Blk.cell hX 2
    have x3 : wr.cell? ⟨w.heap.size, 3, none⟩ = some (.bool tl) := Blk.cell hX 3
    by_cases hlt : k < n
    · obtain ⟨p, hp⟩ : ∃ p, ps[k]? = some p := ⟨_, List.getElem?_eq_getElem (by have := HPN.out; omega)⟩
      obtain ⟨hpk, hpt⟩ := HOK.out p (List.mem_of_getElem? hp)
      obtain ⟨pb, po, rfl, hcell⟩ := ((HR.out.keep hbp).keep hbr).2 (by omega)
      obtain ⟨e1, e2⟩ := partCells_at ps k p hp
      have hc1 : wr.cell? ⟨pb, po + k * 2, none⟩ = _ := hcell _ _ e1
      have hc2 : wr.cell? ⟨pb, po + k * 2 + 1, none⟩ = _ := hcell _ _ e2
      have hwl : (strL ps)[k]? = some (stringP p.kind p.text) := by simp [strL, hp]
      have htk : s0 :: (strL ps).take (k + 1) = (s0 :: (strL ps).take k) ++ [stringP p.kind p.text] := by rw [List.take_add_one, hwl]; rfl
      have HTK := Lib.hid htk
      have cW := fun W => stringP_any p.kind p.text W (by omega) hpk
      clear hp hcell e1 e2 hwl htk
      generalize stringP p.kind p.text = x at *
      obtain ⟨pk, pt⟩ := p
      dsimp only at *
      have HW := Lib.hid cW
      clear cW
      go_wp2_with (first | (go_at_call 152; refine (HW.out _).mono ?_; rintro e w2 ⟨rfl, hb2⟩) | (at_builtin; refine wpList_append_own _ rfl _ _ 32 rfl w1.heap.size 9 i0 (.string ⟨#[]⟩) 1 16 Tryz.underlying32 HI.out.1 HI.out.2.1 HI.out.2.2.1 HI.out.2.2.2 rfl (by decide) _ _ _ rfl ((ownsRow_keep (hown.alloc _) hb2).alloc _) ⟨w2.heap.size, 0, none⟩ 1 1 [.string x] rfl rfl (cell_one_new _ _ _) (by simp [Value.oneCell']) (by unfold maxLen; omega) (by omega) (by have := hb2.size; have := hbr.size; simp at *; omega) ?_; intro v' w3 hown' hgrow _; obtain ⟨g', cap', rfl⟩ := ownsRow_succ hown'))
      have h1 := hbr.size
      have h2 := hb2.size
      simp at h2
      refine ⟨⟨k + 1, g', cap', ⟨rfl, by go_num, by omega⟩, ?_, ?_, ?_⟩, by simp [intOf]; omega⟩
      · rw [HTK.out, List.map_append]; exact hown'
      · refine (hgrow.block w.heap.size (by simp; omega) (fun e => by have := ownsRow_block hown _ e.symm; omega)).trans ?_
        exact Blk.keep (Blk.keep hX (blater _ hb2)) (balloc (Below.refl _ _) _)
      · exact ((hbr.trans (blater _ hb2 |>.mono h1)).alloc (by omega) _).grown hgrow (by simp; omega) (fun r e => ownsRow_block hown r e)
    · obtain rfl : k = n := by omega
      have htk : (strL ps).take k = strL ps := List.take_of_length_le (by simp [strL]; have := HPN.out; omega)
      rw [htk] at hown
      have hbw : Below w.heap.size w wr := hbp.trans (hbr.mono (by omega))
      have hs0z := HS0.out
      have hall : ∀ x ∈ s0 :: strL ps, x.size ≤ 200000 := by
        intro x hx
        rcases List.mem_cons.1 hx with rfl | hx
        · exact HS0.out
        · exact HSL.out x hx
      have HALL := Lib.hid hall
      clear hall htk
      cases tl
      · have cJ := join_any A' (k + 1) c' _ wr _ hown (by omega) HALL.out
        have hVv := HV.out
        simp only [Bool.false_eq_true, if_false, List.append_nil] at hVv
        rw [hVv] at cJ
        have HJ := Lib.hid cJ
        clear cJ hVv
        go_wp2_with (go_at_call 75; refine HJ.out.mono ?_; rintro e w4 ⟨rfl, hb4⟩)
        go_ret
        exact ⟨rfl, bstep hbw hb4⟩
      · have hVv := HV.out
        simp only [if_true] at hVv
        have HVV := Lib.hid hVv
        clear hVv
        go_wp2_with (at_builtin; refine wpList_append_own _ rfl _ _ 32 rfl w1.heap.size 9 i0 (.string ⟨#[]⟩) 1 16 Tryz.underlying32 HI.out.1 HI.out.2.1 HI.out.2.2.1 HI.out.2.2.2 rfl (by decide) _ _ _ rfl (hown.alloc _) ⟨wr.heap.size, 0, none⟩ 1 1 [.string ⟨#[42, 42]⟩] rfl rfl (cell_one_new _ _ _) (by simp [Value.oneCell']) (by unfold maxLen; omega) (by omega) (by have := hbr.size; simp at *; omega) ?_; intro v' w3 hown' hgrow _; obtain ⟨g', cap', rfl⟩ := ownsRow_succ hown')
        have h1 := hbr.size
        have hb3 : Below w1.heap.size w1 w3 := (hbr.alloc h1 _).grown hgrow (by simp; omega) (fun r e => ownsRow_block hown r e)
        have cJ := join_any g' (k + 1 + 1) cap' ((s0 :: strL ps) ++ [⟨#[42, 42]⟩]) w3 w1.heap.size (by rw [List.map_append]; exact hown') (by omega) (by
          intro x hx
          rcases List.mem_append.1 hx with hx | hx
          · exact HALL.out x hx
          · rw [List.mem_singleton.1 hx]; decide)
        rw [HVV.out] at cJ
        have HJ := Lib.hid cJ
        clear cJ hgrow hown'
        have hbw3 : Below w.heap.size w w3 := hbp.trans (hb3.mono (by omega))
        go_wp2_with (go_at_call 75; refine HJ.out.mono ?_; rintro e w4 ⟨rfl, hb4⟩)
        go_ret
        exact ⟨rfl, bstep hbw3 hb4⟩
end Go.Proofs.YtmlhecjhjjlhfaaGreatDoor
namespace Go.Proofs.YtmlhecjhjjlhfaaGreatDoor
open Go.RowKit Go.Sort
set_option linter.unusedVariables false
set_option linter.unusedSimpArgs false
set_option maxRecDepth 100000
set_option maxHeartbeats 4000000 in
theorem cmpOr_any (g c : Nat) (a b : ByteArray) (w : World) (h0 : w.cell? ⟨g, 0, none⟩ = some (.string a)) (h1 : w.cell? ⟨g, 1, none⟩ = some (.string b)) : Calls Tryz.prog 169 #[.slice (some ⟨g, 0, none⟩) 2 c] w (Ret w (.string (if a.size = 0 then b else a))) := by
  have hE : ∀ s : ByteArray, s.size = 0 → s = ⟨#[]⟩ := fun s h => bytes_ext (List.eq_nil_of_length_eq_zero (by rw [← Lib.size_eq]; exact h))
  have hN : ∀ s : ByteArray, s.size ≠ 0 → ¬ s.toList = [] := fun s h e => h (by rw [Lib.toList_data] at e; rw [Lib.size_eq, e]; rfl)
  obtain ⟨V, hV⟩ : ∃ V, V = if a.size = 0 then b else a := ⟨_, rfl⟩
  rw [← hV]
  have HV := Lib.hid hV
  have H0 := Lib.hid h0
  have H1 := Lib.hid h1
  clear h0 h1 hV
  go_enter Tryz.func169, Tryz.ntmps169
  go_wp2
  go_loopw [8] (fun vi wr => ∃ k : Nat, vi = .int .i64 k ∧ k ≤ 2 ∧ Hid ((0 < k → a.size = 0) ∧ (1 < k → b.size = 0)) ∧ Below w.heap.size w wr) (fun i _ => 2 - (intOf i).toNat)
  case atStart => exact ⟨0, rfl, by omega, Lib.hid ⟨fun h => by omega, fun h => by omega⟩, Below.refl _ _⟩
  case round =>
    obtain ⟨k, rfl, hk, HK, hbr⟩ := hrel
    have c0 := cell_keep hbr H0.out
    have c1 := cell_keep hbr H1.out
    by_cases hlt : k < 2
    · rcases k with _ | _ | k
      · by_cases hs : a.size = 0
        · have ha := hE a hs
          have HK2 : Hid ((0 < 1 → a.size = 0) ∧ (1 < 1 → b.size = 0)) := Lib.hid ⟨fun _ => hs, fun h => by omega⟩
          rw [ha] at c0
          clear HK ha
          go_wp2
          exact ⟨⟨1, by go_num, by omega, HK2, hbr⟩, by simp [intOf]; try omega⟩
        · have hn := hN a hs
          have hn2 : (a.toList == []) = false := by simpa using hn
          obtain rfl : V = a := by rw [HV.out, if_neg hs]
          clear HK
          go_wp2
          go_ret
          exact ⟨rfl, hbr⟩
      · have hs := HK.out.1 (by omega)
        obtain rfl : V = b := by rw [HV.out, if_pos hs]
        by_cases hs2 : V.size = 0
        · have hb := hE V hs2
          have HK2 : Hid ((0 < 2 → a.size = 0) ∧ (1 < 2 → V.size = 0)) := Lib.hid ⟨fun _ => hs, fun _ => hs2⟩
          rw [hb] at c1
          clear HK hb
          go_wp2
          exact ⟨⟨2, by go_num, by omega, HK2, hbr⟩, by simp [intOf]; try omega⟩
        · have hn := hN V hs2
          have hn2 : (V.toList == []) = false := by simpa using hn
          clear HK
          go_wp2
          go_ret
          exact ⟨rfl, hbr⟩
      · omega
    · obtain rfl : k = 2 := by omega
      have hs := HK.out.1 (by omega)
      have hs2 := HK.out.2 (by omega)
      obtain rfl : V = ⟨#[]⟩ := by rw [HV.out, if_pos hs, hE b hs2]
      go_wp2
      go_ret
      exact ⟨rfl, hbr⟩
end Go.Proofs.YtmlhecjhjjlhfaaGreatDoor
namespace Go.Proofs.YtmlhecjhjjlhfaaGreatDoor
open Go.RowKit Go.Sort
set_option linter.unusedVariables false
set_option linter.unusedSimpArgs false
set_option maxRecDepth 100000
def OwnPost (ps : List ByteArray) (w : World) (e : Ending) (w' : World) : Prop := ∃ A c, e = .returned (.slice A ps.length c) ∧ w'.ownsRow w.heap.size 9 1 (.slice A ps.length c) ps.length (ps.map .string) ∧ Below w.heap.size w w'
end Go.Proofs.YtmlhecjhjjlhfaaGreatDoor
namespace Go.Proofs.YtmlhecjhjjlhfaaGreatDoor
open Go.RowKit Go.Sort
set_option linter.unusedVariables false
set_option linter.unusedSimpArgs false
set_option maxRecDepth 100000
def ResBox (w : World) (g : Nat) (s : ByteArray) (e : Int) : Prop := Blk w g 102 #[.string s, .int .i64 e] (0, 0)
theorem blk_free0 {w : World} {g : Nat} {t : TypeId} {cs : Array Value} (h : Blk w g t cs (0, 0)) (i : Nat) : w.frozen? ⟨g, i, none⟩ = false := by
  unfold Blk at h
  simp [World.frozen?, h]
theorem ResBox.facts {w : World} {g : Nat} {s : ByteArray} {e : Int} (h : ResBox w g s e) : w.cell? ⟨g, 0, none⟩ = some (.string s) ∧ w.cell? ⟨g, 1, none⟩ = some (.int .i64 e) ∧ w.frozen? ⟨g, 0, none⟩ = false ∧ w.frozen? ⟨g, 1, none⟩ = false :=
  ⟨Blk.cell h 0, Blk.cell h 1, blk_free0 h 0, blk_free0 h 1⟩
end Go.Proofs.YtmlhecjhjjlhfaaGreatDoor
