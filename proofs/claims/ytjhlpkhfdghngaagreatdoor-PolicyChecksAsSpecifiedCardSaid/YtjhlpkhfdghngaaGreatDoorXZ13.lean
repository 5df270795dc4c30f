/- Operations whose run is known: a build, a slice literal; a whole struct stored in its new box. -/
import Derived.Test.YtjhlpkhfdghngaaGreatDoorXZ6
import Derived.Test.YtjhlpkhfdghngaaGreatDoorProg
import Derived.WalkKit
import Derived.WalkSpells
import Derived.WalkLawsBesides
import Derived.Below
import Derived.Deep.QuietTactic
import Derived.BigQuiet
import Derived.Lib.QuietBelow
import Derived.Lib.Strings
import Derived.Lib.Hide
import Derived.Deep.RegionWith
import Derived.Deep.RegionHeld3
import Derived.Lib.IndexBytes
import Derived.Test.YtjhlpkhfdghngaaGreatDoorXZ11
import Derived.Test.YtjhlpkhfdghngaaGreatDoorXZ12
import Derived.Test.YtjhlpkhfdghngaaGreatDoorXZ9
import Derived.Laws.OwnMore
import Derived.Deep.DeepCutAuto
namespace Go.Proofs.YtjhlpkhfdghngaaGreatDoor
open Go.RowKit Go.Sort
set_option linter.unusedVariables false
set_option linter.unusedSimpArgs false
set_option maxRecDepth 100000
section
variable {P : Program}
theorem wp_build_as {o : Oper} {a : Act} {w : World} {K : Act → World → Prop} {Q : Exit → Act → World → Prop} (t : TypeId) (parts : Array (Nat × Operand)) (ho : o.op = .build t parts) (ps : Array (Nat × Value)) (hp : (parts.map fun (i, x) => (i, a.eval x)) = ps)
    (v : Value) (hr : (Instr.build t ps).run P w = .ok v w) (h : K (a.put o.dst v) w) : o.wp P a w K Q := by
  subst hp
  unfold Oper.wp execOp
  simp only [ho, Sem.run_bind, Sem.run_pure, Result.andThen_ok, hr]
  exact h
theorem wp_buildSlice_as {o : Oper} {a : Act} {w : World} {K : Act → World → Prop} {Q : Exit → Act → World → Prop} (t : TypeId) (n : Nat) (parts : Array (Nat × Operand)) (ho : o.op = .buildSlice t n parts) (ps : Array (Nat × Value)) (hp : (parts.map fun (i, x) => (i, a.eval x)) = ps)
    (v : Value) (w' : World) (hr : (Instr.buildSlice t n ps).run P w = .ok v w') (h : K (a.put o.dst v) w') : o.wp P a w K Q := by
  subst hp
  unfold Oper.wp execOp
  simp only [ho, Sem.run_bind, Sem.run_pure, Result.andThen_ok, hr]
  exact h
theorem wpList_build_as {ops : Array Oper} {rest : List Oper} {o : Oper} {a : Act} {w : World} {Q : Exit → Act → World → Prop} (hgd : o.guard = none) (t : TypeId) (parts : Array (Nat × Operand)) (ho : o.op = .build t parts) (ps : Array (Nat × Value)) (hp : (parts.map fun (i, x) => (i, a.eval x)) = ps)
    (v : Value) (hr : (Instr.build t ps).run P w = .ok v w) (h : wpList P ops Q rest (a.put o.dst v) w) : wpList P ops Q (o :: rest) a w :=
  wpList_plain hgd fun _ hK => wp_build_as t parts ho ps hp v hr (hK _ _ h)
theorem wpList_buildSlice_as {ops : Array Oper} {rest : List Oper} {o : Oper} {a : Act} {w : World} {Q : Exit → Act → World → Prop} (hgd : o.guard = none) (t : TypeId) (n : Nat) (parts : Array (Nat × Operand)) (ho : o.op = .buildSlice t n parts) (ps : Array (Nat × Value)) (hp : (parts.map fun (i, x) => (i, a.eval x)) = ps)
    (v : Value) (w' : World) (hr : (Instr.buildSlice t n ps).run P w = .ok v w') (h : wpList P ops Q rest (a.put o.dst v) w') : wpList P ops Q (o :: rest) a w :=
  wpList_plain hgd fun _ hK => wp_buildSlice_as t n parts ho ps hp v w' hr (hK _ _ h)
theorem wp_binOp_as {o : Oper} {a : Act} {w : World} {K : Act → World → Prop} {Q : Exit → Act → World → Prop} (op : BinOp) (t : TypeId) (x y : Operand) (t2 : TypeId) (ho : o.op = .binOp op t x y t2)
    (v : Value) (hr : (do eqGuard op t x y (a.eval x) (a.eval y); binOp op t (a.eval x) (a.eval y)).run P w = .ok v w) (h : K (a.put o.dst v) w) : o.wp P a w K Q := by
  unfold Oper.wp execOp
  rw [ho]
  simp only [Sem.run_bind] at hr
  simp only [Sem.run_bind, Sem.run_pure, hr, Result.andThen_ok]
  exact h
theorem wp_load_addr {o : Oper} {a : Act} {w : World} {K : Act → World → Prop} {Q : Exit → Act → World → Prop} (ty : TypeId) (x : Operand) (ho : o.op = .load ty x)
    (ad : Addr) (v : Value) (hx : a.eval x = .pointer (some ad)) (hl : (loadVar ty ad).run P w = .ok v w) (h : K (a.put o.dst v) w) : o.wp P a w K Q := by
  unfold Oper.wp execOp
  simp only [ho, hx, Instr.loadAt, Instr.sureAddr, Sem.run_bind, Sem.run_pure, Result.andThen_ok, hl]
  exact h
end
theorem setRow_alloc (w : World) (old cells : Array Value) (t : TypeId) : (w.alloc (.cells old t)).setRow w.heap.size cells = w.alloc (.cells cells t) := by
  unfold World.setRow World.alloc
  simp only [World.mk.injEq, true_and, and_true]
  refine Array.ext_getElem? fun i => ?_
  rw [Array.getElem?_modify, Array.getElem?_push, Array.getElem?_push]
  by_cases h : w.heap.size = i
  · subst h; simp
  · rw [if_neg h, if_neg (fun e => h e.symm), if_neg (fun e => h e.symm)]
end Go.Proofs.YtjhlpkhfdghngaaGreatDoor
namespace Go.Proofs.YtjhlpkhfdghngaaGreatDoor
open Go.RowKit Go.Sort
set_option linter.unusedVariables false
set_option linter.unusedSimpArgs false
set_option maxRecDepth 100000
structure NSt (w : World) (PL ZD : Array Value) (W : World) : Prop where
  p : Box1 W w.heap.size 24 PL
  z : Box1 W (w.heap.size + 1) 38 ZD
  b : Below w.heap.size w W
  s : w.heap.size + 1 < W.heap.size
theorem NSt.keep {w W W' : World} {PL ZD : Array Value} (h : NSt w PL ZD W) (hb : Below W.heap.size W W') : NSt w PL ZD W' := ⟨h.p.keep hb, h.z.keep hb, bstep h.b hb, Nat.lt_of_lt_of_le h.s hb.size⟩
theorem NSt.keep2 {w W W' : World} {PL ZD : Array Value} (h : NSt w PL ZD W) (hb : Below (w.heap.size + 2) W W') : NSt w PL ZD W' :=
  ⟨(hb.block _ (by omega)).trans h.p, (hb.block _ (by omega)).trans h.z, h.b.trans (hb.mono (by omega)), Nat.lt_of_lt_of_le h.s hb.size⟩
theorem infStrN : (Tryz.prog.info? 9).map (fun i => (i.zero, i.size, i.bytes)) = some (some (.string ⟨#[]⟩), 1, 16) := by kernel_rfl
def Five (l : List Int) : Value → World → Prop := fun v W => ∃ b, v = .slice (some ⟨b, 0, none⟩) 5 5 ∧ Reads W 1 (some ⟨b, 0, none⟩) 5 (l.map (.int .i64))
theorem keeps_five (l : List Int) : Keeps (Five l) := fun _ _ _ ⟨b, e, hr⟩ hb => ⟨b, e, hr.keep hb⟩
def Strs (n : Nat) (l : List ByteArray) : Value → World → Prop := fun v W => ∃ b, v = .slice (some ⟨b, 0, none⟩) n n ∧ Reads W 1 (some ⟨b, 0, none⟩) n (l.map .string)
theorem keeps_strs (n : Nat) (l : List ByteArray) : Keeps (Strs n l) := fun _ _ _ ⟨b, e, hr⟩ hb => ⟨b, e, hr.keep hb⟩
theorem num5_ok {x : RuleM} (h : NameOk x) : ∀ y ∈ [x.r.fresh, x.r.stale, x.r.down, x.r.neg, x.r.cost], -9223372036854775808 ≤ y ∧ y ≤ 9223372036854775807 := by
  have ok := h.ok
  have := ok.f0; have := ok.f1; have := ok.s0; have := ok.s1; have := ok.d0; have := ok.d1; have := ok.n0; have := ok.n1; have := ok.c0; have := ok.c1
  intro y hy
  simp only [List.mem_cons, List.not_mem_nil, or_false] at hy
  rcases hy with rfl | rfl | rfl | rfl | rfl <;> omega
theorem vary_ok {x : RuleM} (h : NameOk x) : -9223372036854775808 ≤ (x.r.vary.length : Int) ∧ (x.r.vary.length : Int) ≤ 9223372036854775807 := by have := h.fits.nv; omega
structure R9S (g : Nat) (X : Array Value) (w0 : World) (W : World) : Prop where
  x : Box1 W g 33 X
  b : Below w0.heap.size w0 W
theorem R9S.keep {g : Nat} {X : Array Value} {w0 W W' : World} (h : R9S g X w0 W) (hb : Below W.heap.size W W') : R9S g X w0 W' := ⟨h.x.keep hb, bstep h.b hb⟩
theorem strs_news {n b : Nat} {l : List ByteArray} {W : World} (hn : 0 < n) (h : Reads W 1 (some ⟨b, 0, none⟩) n (l.map .string)) : ∀ j u, (l.map Value.string)[j]? = some u → W.cell? ((⟨b, 0, none⟩ : Addr).add j) = some u := by
  obtain ⟨b', o, e, hc⟩ := h.2 hn
  injection e with e
  injection e with e1 e2
  subst e1; subst e2
  intro j u hu
  have hadd : (⟨b, 0, none⟩ : Addr).add j = ⟨b, 0 + j, none⟩ := by unfold Addr.add; split <;> simp_all
  rw [hadd]
  exact hc j u hu
theorem strs_one (l : List ByteArray) : ∀ u ∈ l.map Value.string, u.oneCell' = true := by
  intro u hu
  obtain ⟨s, _, rfl⟩ := List.mem_map.1 hu
  rfl
theorem vary_load (w : World) (b o : Nat) (x : VaryM) (hc : ∀ j u, x.cells[j]? = some u → w.cell? ⟨b, o + j, none⟩ = some u) : (loadVar 99 ⟨b, o, none⟩).run Tryz.prog w = .ok (.agg x.cells.toArray) w := by
  have hl : (loadCells ⟨b, o, none⟩ 3).run Tryz.prog w = .ok x.cells.toArray w :=
    run_loadCells_list (P := Tryz.prog) w ⟨b, o, none⟩ x.cells (fun j v hv => by
      have hadd : (⟨b, o, none⟩ : Addr).add j = ⟨b, o + j, none⟩ := by unfold Addr.add; split <;> simp_all
      rw [hadd]; exact hc j v hv)
  have hi : (Tryz.prog.info? 99).map (·.size) = some 3 := by kernel_rfl
  cases hq : Tryz.prog.info? 99 with
  | none => rw [hq] at hi; cases hi
  | some i =>
    have hs : i.size = 3 := by rw [hq] at hi; simpa using hi
    have hagg : (isAgg 99).run Tryz.prog w = .ok true w := by
      unfold isAgg
      rw [Sem.run_bind, run_underlying Tryz.underlying99 w]
      rfl
    simp [loadVar, Sem.run_bind, hagg, sizeOf, typeInfo, hq, hs, hl]
theorem infVary : (Tryz.prog.info? 99).map (·.size) = some 3 := by kernel_rfl
theorem infDig : (Tryz.prog.info? 38).map (·.size) = some 16 := by kernel_rfl
structure R13S (g : Nat) (Y : Array Value) (w0 : World) (W : World) : Prop where
  x : Box1 W g 99 Y
  b : Below w0.heap.size w0 W
theorem R13S.keep {g : Nat} {Y : Array Value} {w0 W W' : World} (h : R13S g Y w0 W) (hb : Below W.heap.size W W') : R13S g Y w0 W' := ⟨h.x.keep hb, bstep h.b hb⟩
set_option maxHeartbeats 8000000 in
theorem name_any (cust : ByteArray) (party : Int) (A : Option Addr) (n c : Nat) (L : List RuleM) (w : World) (hL : RulesRead w A n L) (hx : ∀ x ∈ L, NameOk x) (hn : n ≤ 64) (hcs : cust.size ≤ 1000000) (hp : -9223372036854775808 ≤ party ∧ party ≤ 9223372036854775807) (hE : Env w) (hT : Tab w) (hK : Ks w) :
    Calls Tryz.prog 16 #[polV cust party A n c] w (Ret w (.agg (b8 (Sha.ofD 22 ((partsP cust party (L.map (·.r))).map nb))).toArray)) := by
  obtain ⟨i0, hi0, hz0, hz1, hz2⟩ := info_parts infStrN
  have HI := Lib.hid (And.intro hi0 (And.intro hz0 (And.intro hz1 hz2)))
  clear hi0 hz0 hz1 hz2
  have hl : L.length = n := hL.len
  have cI := fun (m : Int) (h : -9223372036854775808 ≤ m ∧ m ≤ 9223372036854775807) (W : World) (hb : Below w.heap.size w W) => itoa_any m W h.1 h.2 (hT.keep hb)
  have cT := fun (x : RuleM) (hm : x ∈ L) (W : World) (hb : Below w.heap.size w W) => text_all x.r.allow x.m W ((hL.each x hm).allow.keep hb) (hx x hm).fits.c (hE.keep hb) (hT.keep hb)
  have hpl : (partsP cust party (L.map (·.r))).length ≤ 10000 := by
    have := flatR_len L hx
    unfold partsP
    rw [List.length_append]
    have h2 : [cust, itoaB party].length = 2 := rfl
    omega
  have cO := fun (B : Option Addr) (d : Nat) (W : World) (hR : Reads W 1 B (partsP cust party (L.map (·.r))).length ((partsP cust party (L.map (·.r))).map .string)) (hb : Below w.heap.size w W) => of_any 22 (by decide) B _ d _ W hR hpl (partsP_size cust party L hcs hp hx) (hK.keep hb)
  obtain ⟨V, hV⟩ : ∃ V, V = partsP cust party (L.map (·.r)) := ⟨_, rfl⟩
  rw [← hV] at cO ⊢
  generalize hDG : (b8 (Sha.ofD 22 (V.map nb))).toArray = DG at *
  have HV := Lib.hid hV; have HL := Lib.hid hL; have HX := Lib.hid hx; have HLN := Lib.hid hl; have HCI := Lib.hid cI; have HCT := Lib.hid cT; have HCO := Lib.hid cO; have HT := Lib.hid hT; have HDG := Lib.hid hDG
  clear hV hL hx hl cI cT cO hT hE hK hpl hDG
  unfold polV
  go_enter Tryz.func16, Tryz.ntmps16
  go_upto_region 1 with fail
  generalize hw0 : World.alloc _ _ = w0
  obtain ⟨PL, hPL⟩ : ∃ PL : Array Value, PL = #[.string cust, .int .i64 party, .slice A n c] := ⟨_, rfl⟩
  obtain ⟨ZD, hZD⟩ : ∃ ZD : Array Value, ZD = (b8 (List.replicate 16 0)).toArray := ⟨_, rfl⟩
  have hS0 : NSt w PL ZD w0 := by
    rw [← hw0, hPL, hZD]
    exact ⟨(alloc2_box w _ _).1, (alloc2_box w _ _).2, belB, by simp⟩
  have p0 : PL[0]? = some (.string cust) := by rw [hPL]; rfl
  have p1 : PL[1]? = some (.int .i64 party) := by rw [hPL]; rfl
  have p2 : PL[2]? = some (.slice A n c) := by rw [hPL]; rfl
  have zsz : ZD.size = 16 := by rw [hZD]; rfl
  have HS0 := Lib.hid hS0; have HP0 := Lib.hid p0; have HP1 := Lib.hid p1; have HP2 := Lib.hid p2; have HZD := Lib.hid zsz
  clear hw0 hS0 hPL hZD p0 p1 p2 zsz
  refine wp_det 5 (by kernel_rfl) (by kernel_rfl) (by kernel_rfl) (fun i => [.pointer (some ⟨w.heap.size, 0, none⟩), .string cust, .pointer (some ⟨w.heap.size, 1, none⟩), .int .i64 party, .string (itoaB party)].getD i undef) (NSt w PL ZD) (HS0.out.keep (Below.drew (Below.refl _ _))) (fun _ _ h hb => h.keep hb) ?_ ?_
  · simp only [putL, List.take_succ_cons, List.take_zero, List.drop_succ_cons, List.drop_zero, Act.put, List.setIfInBounds_toArray, List.set_cons_succ, List.set_cons_zero, List.getD_cons_zero, List.getD_cons_succ]
    refine ⟨fun W hS => ?_, fun W hS => ?_, fun W hS => ?_, fun W hS => ?_, fun W hS => ?_, trivial⟩
    all_goals
      have y0 := hS.p.cell HP0.out
      have y1 := hS.p.cell HP1.out
      go_wp2_with (first | (go_at_call 60; refine (HCI.out party hp _ hS.b).mono ?_; rintro e w2 ⟨rfl, hb2⟩))
      exact ⟨rfl, rfl, belB⟩
  intro w1 hS1
  simp only [putL, List.take_succ_cons, List.take_zero, List.drop_succ_cons, List.drop_zero, Act.put, List.setIfInBounds_toArray, List.set_cons_succ, List.set_cons_zero, List.getD_cons_zero, List.getD_cons_succ]
  go_upto_region 2 with fail
  have hown1 : (w1.alloc (.cells #[.string cust, .string (itoaB party)] 9)).ownsRow (w.heap.size + 2) 9 1 (.slice (some ⟨w1.heap.size, 0, none⟩) 2 2) 2 ([cust, itoaB party].map .string) := by
    have := World.ownsRow_lit (base := w.heap.size + 2) (e := 9) (size := 1) w1 #[.string cust, .string (itoaB party)] 2 (by have := hS1.s; omega) (by unfold maxLen; omega) rfl
    exact this
  have hS2 : NSt w PL ZD (w1.alloc (.cells #[.string cust, .string (itoaB party)] 9)) := hS1.keep ((Below.refl _ _).alloc (Nat.le_refl _) _)
  obtain ⟨g1, hg1⟩ : ∃ g1, g1 = w1.heap.size := ⟨_, rfl⟩
  rw [← hg1] at hown1 ⊢
  have HS2 := Lib.hid hS2; have HO1 := Lib.hid hown1
  generalize w1.alloc (.cells #[.string cust, .string (itoaB party)] 9) = w2 at *
  clear hS2 hown1 hS1 hg1 HS0
  clear w1 w0
  have y2 := HS2.out.p.cell HP2.out
  go_wp2_with fail
  clear y2
  go_loopw [3, 20] (fun pv iv wr => ∃ (k : Nat) (acc : List ByteArray) (B : Option Addr) (d : Nat), k ≤ n ∧ iv = .int .i64 k ∧ pv = .slice B acc.length d ∧ acc.length ≤ 2 + k * 38 ∧ Hid (V = acc ++ ((L.drop k).map (·.r)).flatMap partsR) ∧ wr.ownsRow (w.heap.size + 2) 9 1 (.slice B acc.length d) acc.length (acc.map .string) ∧ Hid (NSt w PL ZD wr)) (fun _ iv _ => n - (intOf iv).toNat)
  case atStart => exact ⟨0, [cust, itoaB party], some ⟨g1, 0, none⟩, 2, by omega, rfl, rfl, by simp, Lib.hid (by rw [HV.out]; rfl), HO1.out, HS2⟩
  case round =>
    obtain ⟨k, acc, B, d, hk, rfl, rfl, hak, HVA, hown, HS⟩ := hrel
    clear HS2 HO1
    by_cases hlt : k < n
    · obtain ⟨x, hxx⟩ : ∃ x, L[k]? = some x := ⟨_, List.getElem?_eq_getElem (by have := HLN.out; omega)⟩
      have hxm := List.mem_of_getElem? hxx
      have hnok := HX.out x hxm
      obtain ⟨_, b, o, rfl, hcell⟩ := (HL.out.keep HS.out.b).at_ hxx
      have hld := rule_load wr b (o + k * 18) x hcell
      have hd : L.drop k = x :: L.drop (k + 1) := by
        obtain ⟨hl2, rfl⟩ := List.getElem?_eq_some_iff.1 hxx
        exact List.drop_eq_getElem_cons hl2
      have hVA := HVA.out
      rw [hd, List.map_cons, List.flatMap_cons, ← List.append_assoc] at hVA
      have hTX := HCT.out x hxm
      have hrr := HL.out.each x hxm
      have hc0 : x.cells.toArray[0]? = some (.string x.r.name) := rfl
      have hc1 : x.cells.toArray[1]? = some (.string x.r.pat) := rfl
      have hc2 : x.cells.toArray[2]? = some (.slice x.T x.r.tags.length x.ct) := rfl
      have hc3 : x.cells.toArray[3]? = some (.int .i64 x.r.fresh) := rfl
      have hc4 : x.cells.toArray[4]? = some (.int .i64 x.r.stale) := rfl
      have hc5 : x.cells.toArray[5]? = some (.int .i64 x.r.down) := rfl
      have hc6 : x.cells.toArray[6]? = some (.int .i64 x.r.neg) := rfl
      have hc7 : x.cells.toArray[7]? = some (.slice x.V x.r.vary.length x.cv) := rfl
      have hc9 : x.cells.toArray[15]? = some (.bool x.r.signed) := rfl
      have hc10 : x.cells.toArray[16]? = some (.int .i64 x.r.cost) := rfl
      have hc11 : x.cells.toArray[17]? = some (.string x.r.prog) := rfl
      have hxc : ∀ j v, [Value.int .i64 x.r.allow.fr, .int .i64 x.r.allow.till, .string x.r.allow.pat, .slice x.m.A x.r.allow.cl.length x.m.ca, .slice x.m.B x.r.allow.co.length x.m.cb, .slice x.m.S x.r.allow.si.length x.m.cs, .int .i64 x.r.allow.us][j]? = some v → x.cells.toArray[8 + j]? = some v := by
        intro j v hj
        match j, hj with
        | 0, hj => exact hj
        | 1, hj => exact hj
        | 2, hj => exact hj
        | 3, hj => exact hj
        | 4, hj => exact hj
        | 5, hj => exact hj
        | 6, hj => exact hj
      have hone : x.cells.toArray.all (·.oneCell') = true := by rw [List.all_toArray]; rfl
      have hsz2 : x.cells.toArray.size = 18 := by rw [List.size_toArray, x.cells_len]
      have hi18 : (Tryz.prog.info? 33).map (·.size) = some x.cells.toArray.size := by rw [hsz2]; exact infRule
      have hsz : x.cells.toArray.size = (#[.string ⟨#[]⟩, .string ⟨#[]⟩, .slice none 0 0, .int .i64 0, .int .i64 0, .int .i64 0, .int .i64 0, .slice none 0 0, .int .i64 0, .int .i64 0, .string ⟨#[]⟩, .slice none 0 0, .slice none 0 0, .slice none 0 0, .int .i64 0, .bool false, .int .i64 0, .string ⟨#[]⟩] : Array Value).size := by rw [hsz2]; rfl
      unfold RuleM.val at hld
      generalize x.cells.toArray = X at *
      have HLD := Lib.hid hld; have HVA := Lib.hid hVA; have HTX := Lib.hid hTX; have HRR := Lib.hid hrr; have HNO := Lib.hid hnok; have HC0 := Lib.hid hc0; have HC1 := Lib.hid hc1; have HC2 := Lib.hid hc2; have HC3 := Lib.hid hc3; have HC4 := Lib.hid hc4; have HC5 := Lib.hid hc5; have HC6 := Lib.hid hc6; have HC7 := Lib.hid hc7; have HC9 := Lib.hid hc9; have HC10 := Lib.hid hc10; have HC11 := Lib.hid hc11; have HXC := Lib.hid hxc; have HON := Lib.hid hone; have HI18 := Lib.hid hi18; have HSZ := Lib.hid hsz; have HXS := Lib.hid hsz2
      clear hld hVA hTX hrr hnok hc0 hc1 hc2 hc3 hc4 hc5 hc6 hc7 hc9 hc10 hc11 hxc hone hi18 hsz hsz2 hd hcell hxx hxm
      have hk0 : (0 : Int) ≤ (k : Int) := by omega
      have hk1 : (k : Int) < (n : Int) := by omega
      obtain ⟨sg, hsg⟩ : ∃ sg, sg = x.r.signed := ⟨_, rfl⟩
      rw [← hsg] at HC9
      obtain ⟨tx, htx⟩ : ∃ tx, tx = (textE x.r.allow).1 := ⟨_, rfl⟩
      rw [← htx] at HTX
      obtain ⟨tn, htn⟩ : ∃ tn, tn = (textE x.r.allow).2 := ⟨_, rfl⟩
      rw [← htn] at HTX
      have HSG := Lib.hid hsg; have HTE := Lib.hid htx
      clear hsg htx htn
      obtain ⟨ob, hob⟩ : ∃ ob, ob = openB sg := ⟨_, rfl⟩
      have HOB := Lib.hid hob
      clear hob
      go_upto_if 31 with (first | (refine wpList_load_addr rfl 33 _ rfl ⟨b, o + k * 18, none⟩ (.agg X) rfl HLD.out ?_) | (refine wpList_store_row rfl _ _ _ rfl wr.heap.size X rfl rfl _ #[.string ⟨#[]⟩, .string ⟨#[]⟩, .slice none 0 0, .int .i64 0, .int .i64 0, .int .i64 0, .int .i64 0, .slice none 0 0, .int .i64 0, .int .i64 0, .string ⟨#[]⟩, .slice none 0 0, .slice none 0 0, .slice none 0 0, .int .i64 0, .bool false, .int .i64 0, .string ⟨#[]⟩] ((heap_alloc_new wr _).trans rfl) HI18.out HSZ.out.symm HON.out ?_; generalize hw6 : World.setRow _ _ _ = w6; have B6 : Box1 w6 wr.heap.size 33 X := (by rw [← hw6]; exact setRow_heap _ _ _ _ _ _ (heap_alloc_new wr _)); have hb6 : Below wr.heap.size wr w6 := (by rw [← hw6]; exact below_setRow ((Below.refl _ _).alloc (Nat.le_refl _) _) (Nat.le_refl _) _); clear hw6) | (refine wpList_load_addr rfl 31 _ rfl ⟨wr.heap.size, 8, none⟩ _ rfl (run_cond_at B6 HXC.out) ?_) | (go_at_call 61; refine (HTX.out _ (bstep HS.out.b hb6)).mono ?_; rintro e w7 ⟨rfl, hb7⟩; have B7 := B6.keep hb7; have x9 := B7.cell HC9.out))
      have hb7w : Below wr.heap.size wr w7 := bstep hb6 hb7
      clear x9
      go_cut [8] (fun v wx => v = .string ob ∧ Box1 wx wr.heap.size 33 X ∧ Below wr.heap.size wr wx)
      case first =>
        cases sg
        · obtain rfl : ob = (⟨#[111, 112, 101, 110]⟩ : ByteArray) := HOB.out
          go_wp2_with fail
          go_meet
          exact ⟨rfl, B7, hb7w⟩
        · obtain rfl : ob = (⟨#[115, 105, 103, 110, 101, 100]⟩ : ByteArray) := HOB.out
          go_wp2_with fail
          go_meet
          exact ⟨rfl, B7, hb7w⟩
      case rest =>
        obtain ⟨rfl, B8, hb8⟩ := hcut
        clear B6 hb6 B7 hb7 hb7w
        clear w6 w7
        have HB8 := Lib.hid (R9S.mk B8 hb8)
        clear B8 hb8
        go_upto_region 9 with fail
        refine wp_detD 29 (by kernel_rfl) (by kernel_rfl) (by kernel_rfl) (DL [IsV (.slice B acc.length d), IsV (.pointer (some ⟨wr.heap.size, 0, none⟩)), IsV (.string x.r.name), IsV (.pointer (some ⟨wr.heap.size, 1, none⟩)), IsV (.string x.r.pat), IsV (.pointer (some ⟨wr.heap.size, 2, none⟩)), IsV (.slice x.T x.r.tags.length x.ct), IsV (.string (sepT 44 x.r.tags)), IsV (.pointer (some ⟨wr.heap.size, 3, none⟩)), IsV (.int .i64 x.r.fresh), IsV (.pointer (some ⟨wr.heap.size, 4, none⟩)), IsV (.int .i64 x.r.stale), IsV (.pointer (some ⟨wr.heap.size, 5, none⟩)), IsV (.int .i64 x.r.down), IsV (.pointer (some ⟨wr.heap.size, 6, none⟩)), IsV (.int .i64 x.r.neg), IsV (.pointer (some ⟨wr.heap.size, 16, none⟩)), IsV (.int .i64 x.r.cost), Five [x.r.fresh, x.r.stale, x.r.down, x.r.neg, x.r.cost], IsV (.string (numT [x.r.fresh, x.r.stale, x.r.down, x.r.neg, x.r.cost])), IsV (.string tx), IsV (.string ob), IsV (.pointer (some ⟨wr.heap.size, 17, none⟩)), IsV (.string x.r.prog), IsV (.pointer (some ⟨wr.heap.size, 7, none⟩)), IsV (.slice x.V x.r.vary.length x.cv), IsV (.int .i64 (x.r.vary.length : Int)), IsV (.string (itoaB (x.r.vary.length : Int))), Strs 8 [x.r.name, x.r.pat, sepT 44 x.r.tags, numT [x.r.fresh, x.r.stale, x.r.down, x.r.neg, x.r.cost], tx, ob, x.r.prog, itoaB (x.r.vary.length : Int)]]) (DL.keep _ (by simp only [KeepAll]; repeat' (first | apply And.intro | exact keeps_is _ | exact keeps_five _ | exact keeps_strs _ _ | exact trivial))) (R9S wr.heap.size X wr) (HB8.out.keep (Below.drew (Below.refl _ _))) (fun _ _ h hb => h.keep hb) ?_ ?_
        · dsimp only [List.take_succ_cons, List.take_zero, DetD]
          refine ⟨fun vals W hS hd => ?_, fun vals W hS hd => ?_, fun vals W hS hd => ?_, fun vals W hS hd => ?_, fun vals W hS hd => ?_, fun vals W hS hd => ?_, fun vals W hS hd => ?_, fun vals W hS hd => ?_, fun vals W hS hd => ?_, fun vals W hS hd => ?_, fun vals W hS hd => ?_, fun vals W hS hd => ?_, fun vals W hS hd => ?_, fun vals W hS hd => ?_, fun vals W hS hd => ?_, fun vals W hS hd => ?_, fun vals W hS hd => ?_, fun vals W hS hd => ?_, fun vals W hS hd => ?_, fun vals W hS hd => ?_, fun vals W hS hd => ?_, fun vals W hS hd => ?_, fun vals W hS hd => ?_, fun vals W hS hd => ?_, fun vals W hS hd => ?_, fun vals W hS hd => ?_, fun vals W hS hd => ?_, fun vals W hS hd => ?_, fun vals W hS hd => ?_, trivial⟩
          · (try simp only [DepsL, DL, IsV, List.getD_cons_zero, List.getD_cons_succ, Region.binds, and_true, true_and] at hd)
            simp only [putL, List.take_succ_cons, List.take_zero, List.drop_succ_cons, List.drop_zero, Act.put, List.setIfInBounds_toArray, List.set_cons_succ, List.set_cons_zero, List.getD_cons_zero, List.getD_cons_succ]
            (try simp only [hd])
            clear hd
            go_wp2
            exact ⟨rfl, rfl, rfl, belB⟩
          · (try simp only [DepsL, DL, IsV, List.getD_cons_zero, List.getD_cons_succ, Region.binds, and_true, true_and] at hd)
            simp only [putL, List.take_succ_cons, List.take_zero, List.drop_succ_cons, List.drop_zero, Act.put, List.setIfInBounds_toArray, List.set_cons_succ, List.set_cons_zero, List.getD_cons_zero, List.getD_cons_succ]
            (try simp only [hd])
            clear hd
            go_wp2
            exact ⟨rfl, rfl, rfl, belB⟩
          · (try simp only [DepsL, DL, IsV, List.getD_cons_zero, List.getD_cons_succ, Region.binds, and_true, true_and] at hd)
            simp only [putL, List.take_succ_cons, List.take_zero, List.drop_succ_cons, List.drop_zero, Act.put, List.setIfInBounds_toArray, List.set_cons_succ, List.set_cons_zero, List.getD_cons_zero, List.getD_cons_succ]
            (try simp only [hd])
            clear hd
            have cc := hS.x.cell HC0.out
            go_wp2
            exact ⟨rfl, rfl, rfl, belB⟩
          · (try simp only [DepsL, DL, IsV, List.getD_cons_zero, List.getD_cons_succ, Region.binds, and_true, true_and] at hd)
            simp only [putL, List.take_succ_cons, List.take_zero, List.drop_succ_cons, List.drop_zero, Act.put, List.setIfInBounds_toArray, List.set_cons_succ, List.set_cons_zero, List.getD_cons_zero, List.getD_cons_succ]
            (try simp only [hd])
            clear hd
            go_wp2
            exact ⟨rfl, rfl, rfl, belB⟩
          · (try simp only [DepsL, DL, IsV, List.getD_cons_zero, List.getD_cons_succ, Region.binds, and_true, true_and] at hd)
            simp only [putL, List.take_succ_cons, List.take_zero, List.drop_succ_cons, List.drop_zero, Act.put, List.setIfInBounds_toArray, List.set_cons_succ, List.set_cons_zero, List.getD_cons_zero, List.getD_cons_succ]
            (try simp only [hd])
            clear hd
            have cc := hS.x.cell HC1.out
            go_wp2
            exact ⟨rfl, rfl, rfl, belB⟩
          · (try simp only [DepsL, DL, IsV, List.getD_cons_zero, List.getD_cons_succ, Region.binds, and_true, true_and] at hd)
            simp only [putL, List.take_succ_cons, List.take_zero, List.drop_succ_cons, List.drop_zero, Act.put, List.setIfInBounds_toArray, List.set_cons_succ, List.set_cons_zero, List.getD_cons_zero, List.getD_cons_succ]
            (try simp only [hd])
            clear hd
            go_wp2
            exact ⟨rfl, rfl, rfl, belB⟩
          · (try simp only [DepsL, DL, IsV, List.getD_cons_zero, List.getD_cons_succ, Region.binds, and_true, true_and] at hd)
            simp only [putL, List.take_succ_cons, List.take_zero, List.drop_succ_cons, List.drop_zero, Act.put, List.setIfInBounds_toArray, List.set_cons_succ, List.set_cons_zero, List.getD_cons_zero, List.getD_cons_succ]
            (try simp only [hd])
            clear hd
            have cc := hS.x.cell HC2.out
            go_wp2
            exact ⟨rfl, rfl, rfl, belB⟩
          · (try simp only [DepsL, DL, IsV, List.getD_cons_zero, List.getD_cons_succ, Region.binds, and_true, true_and] at hd)
            simp only [putL, List.take_succ_cons, List.take_zero, List.drop_succ_cons, List.drop_zero, Act.put, List.setIfInBounds_toArray, List.set_cons_succ, List.set_cons_zero, List.getD_cons_zero, List.getD_cons_succ]
            (try simp only [hd])
            clear hd
            go_wp2_with (go_at_call 62; refine (sepR_any 44 x.T x.r.tags.length x.ct x.r.tags W (HRR.out.tags.keep (bstep HS.out.b hS.b)) HNO.out.ct (by have := HNO.out.fits.nt; omega) (by have := sep10 44 x.r.tags HNO.out.fits.nt HNO.out.fits.t; omega)).mono ?_; rintro e w2 ⟨rfl, hb2⟩)
            exact ⟨rfl, rfl, rfl, belB⟩
          · (try simp only [DepsL, DL, IsV, List.getD_cons_zero, List.getD_cons_succ, Region.binds, and_true, true_and] at hd)
            simp only [putL, List.take_succ_cons, List.take_zero, List.drop_succ_cons, List.drop_zero, Act.put, List.setIfInBounds_toArray, List.set_cons_succ, List.set_cons_zero, List.getD_cons_zero, List.getD_cons_succ]
            (try simp only [hd])
            clear hd
            go_wp2
            exact ⟨rfl, rfl, rfl, belB⟩
          · (try simp only [DepsL, DL, IsV, List.getD_cons_zero, List.getD_cons_succ, Region.binds, and_true, true_and] at hd)
            simp only [putL, List.take_succ_cons, List.take_zero, List.drop_succ_cons, List.drop_zero, Act.put, List.setIfInBounds_toArray, List.set_cons_succ, List.set_cons_zero, List.getD_cons_zero, List.getD_cons_succ]
            (try simp only [hd])
            clear hd
            have cc := hS.x.cell HC3.out
            go_wp2
            exact ⟨rfl, rfl, rfl, belB⟩
          · (try simp only [DepsL, DL, IsV, List.getD_cons_zero, List.getD_cons_succ, Region.binds, and_true, true_and] at hd)
            simp only [putL, List.take_succ_cons, List.take_zero, List.drop_succ_cons, List.drop_zero, Act.put, List.setIfInBounds_toArray, List.set_cons_succ, List.set_cons_zero, List.getD_cons_zero, List.getD_cons_succ]
            (try simp only [hd])
            clear hd
            go_wp2
            exact ⟨rfl, rfl, rfl, belB⟩
          · (try simp only [DepsL, DL, IsV, List.getD_cons_zero, List.getD_cons_succ, Region.binds, and_true, true_and] at hd)
            simp only [putL, List.take_succ_cons, List.take_zero, List.drop_succ_cons, List.drop_zero, Act.put, List.setIfInBounds_toArray, List.set_cons_succ, List.set_cons_zero, List.getD_cons_zero, List.getD_cons_succ]
            (try simp only [hd])
            clear hd
            have cc := hS.x.cell HC4.out
            go_wp2
            exact ⟨rfl, rfl, rfl, belB⟩
          · (try simp only [DepsL, DL, IsV, List.getD_cons_zero, List.getD_cons_succ, Region.binds, and_true, true_and] at hd)
            simp only [putL, List.take_succ_cons, List.take_zero, List.drop_succ_cons, List.drop_zero, Act.put, List.setIfInBounds_toArray, List.set_cons_succ, List.set_cons_zero, List.getD_cons_zero, List.getD_cons_succ]
            (try simp only [hd])
            clear hd
            go_wp2
            exact ⟨rfl, rfl, rfl, belB⟩
          · (try simp only [DepsL, DL, IsV, List.getD_cons_zero, List.getD_cons_succ, Region.binds, and_true, true_and] at hd)
            simp only [putL, List.take_succ_cons, List.take_zero, List.drop_succ_cons, List.drop_zero, Act.put, List.setIfInBounds_toArray, List.set_cons_succ, List.set_cons_zero, List.getD_cons_zero, List.getD_cons_succ]
            (try simp only [hd])
            clear hd
            have cc := hS.x.cell HC5.out
            go_wp2
            exact ⟨rfl, rfl, rfl, belB⟩
          · (try simp only [DepsL, DL, IsV, List.getD_cons_zero, List.getD_cons_succ, Region.binds, and_true, true_and] at hd)
            simp only [putL, List.take_succ_cons, List.take_zero, List.drop_succ_cons, List.drop_zero, Act.put, List.setIfInBounds_toArray, List.set_cons_succ, List.set_cons_zero, List.getD_cons_zero, List.getD_cons_succ]
            (try simp only [hd])
            clear hd
            go_wp2
            exact ⟨rfl, rfl, rfl, belB⟩
          · (try simp only [DepsL, DL, IsV, List.getD_cons_zero, List.getD_cons_succ, Region.binds, and_true, true_and] at hd)
            simp only [putL, List.take_succ_cons, List.take_zero, List.drop_succ_cons, List.drop_zero, Act.put, List.setIfInBounds_toArray, List.set_cons_succ, List.set_cons_zero, List.getD_cons_zero, List.getD_cons_succ]
            (try simp only [hd])
            clear hd
            have cc := hS.x.cell HC6.out
            go_wp2
            exact ⟨rfl, rfl, rfl, belB⟩
          · (try simp only [DepsL, DL, IsV, List.getD_cons_zero, List.getD_cons_succ, Region.binds, and_true, true_and] at hd)
            simp only [putL, List.take_succ_cons, List.take_zero, List.drop_succ_cons, List.drop_zero, Act.put, List.setIfInBounds_toArray, List.set_cons_succ, List.set_cons_zero, List.getD_cons_zero, List.getD_cons_succ]
            (try simp only [hd])
            clear hd
            go_wp2
            exact ⟨rfl, rfl, rfl, belB⟩
          · (try simp only [DepsL, DL, IsV, List.getD_cons_zero, List.getD_cons_succ, Region.binds, and_true, true_and] at hd)
            simp only [putL, List.take_succ_cons, List.take_zero, List.drop_succ_cons, List.drop_zero, Act.put, List.setIfInBounds_toArray, List.set_cons_succ, List.set_cons_zero, List.getD_cons_zero, List.getD_cons_succ]
            (try simp only [hd])
            clear hd
            have cc := hS.x.cell HC10.out
            go_wp2
            exact ⟨rfl, rfl, rfl, belB⟩
          · (try simp only [DepsL, DL, IsV, List.getD_cons_zero, List.getD_cons_succ, Region.binds, and_true, true_and] at hd)
            simp only [putL, List.take_succ_cons, List.take_zero, List.drop_succ_cons, List.drop_zero, Act.put, List.setIfInBounds_toArray, List.set_cons_succ, List.set_cons_zero, List.getD_cons_zero, List.getD_cons_succ]
            (try simp only [hd])
            clear hd
            go_wp2
            exact ⟨rfl, ⟨_, rfl, reads_new W 3 [.int .i64 x.r.fresh, .int .i64 x.r.stale, .int .i64 x.r.down, .int .i64 x.r.neg, .int .i64 x.r.cost] 5 rfl⟩, rfl, belB⟩
          · (try simp only [DepsL, DL, IsV, List.getD_cons_zero, List.getD_cons_succ, Region.binds, and_true, true_and] at hd)
            simp only [putL, List.take_succ_cons, List.take_zero, List.drop_succ_cons, List.drop_zero, Act.put, List.setIfInBounds_toArray, List.set_cons_succ, List.set_cons_zero, List.getD_cons_zero, List.getD_cons_succ]
            obtain ⟨⟨b5, e5, r5⟩, -⟩ := hd
            simp only [e5]
            go_wp2_with (go_at_call 63; refine (numbers_any (some ⟨b5, 0, none⟩) 5 5 [x.r.fresh, x.r.stale, x.r.down, x.r.neg, x.r.cost] W (num5_ok HNO.out) (HT.out.keep (bstep HS.out.b hS.b)) r5 (by omega) (by have := num5_size [x.r.fresh, x.r.stale, x.r.down, x.r.neg, x.r.cost] (by simp) (num5_ok HNO.out); omega)).mono ?_; rintro e w2 ⟨rfl, hb2⟩)
            exact ⟨rfl, rfl, rfl, belB⟩
          · (try simp only [DepsL, DL, IsV, List.getD_cons_zero, List.getD_cons_succ, Region.binds, and_true, true_and] at hd)
            simp only [putL, List.take_succ_cons, List.take_zero, List.drop_succ_cons, List.drop_zero, Act.put, List.setIfInBounds_toArray, List.set_cons_succ, List.set_cons_zero, List.getD_cons_zero, List.getD_cons_succ]
            (try simp only [hd])
            clear hd
            go_wp2
            exact ⟨rfl, rfl, rfl, belB⟩
          · (try simp only [DepsL, DL, IsV, List.getD_cons_zero, List.getD_cons_succ, Region.binds, and_true, true_and] at hd)
            simp only [putL, List.take_succ_cons, List.take_zero, List.drop_succ_cons, List.drop_zero, Act.put, List.setIfInBounds_toArray, List.set_cons_succ, List.set_cons_zero, List.getD_cons_zero, List.getD_cons_succ]
            (try simp only [hd])
            clear hd
            go_wp2
            exact ⟨rfl, rfl, rfl, belB⟩
          · (try simp only [DepsL, DL, IsV, List.getD_cons_zero, List.getD_cons_succ, Region.binds, and_true, true_and] at hd)
            simp only [putL, List.take_succ_cons, List.take_zero, List.drop_succ_cons, List.drop_zero, Act.put, List.setIfInBounds_toArray, List.set_cons_succ, List.set_cons_zero, List.getD_cons_zero, List.getD_cons_succ]
            (try simp only [hd])
            clear hd
            go_wp2
            exact ⟨rfl, rfl, rfl, belB⟩
          · (try simp only [DepsL, DL, IsV, List.getD_cons_zero, List.getD_cons_succ, Region.binds, and_true, true_and] at hd)
            simp only [putL, List.take_succ_cons, List.take_zero, List.drop_succ_cons, List.drop_zero, Act.put, List.setIfInBounds_toArray, List.set_cons_succ, List.set_cons_zero, List.getD_cons_zero, List.getD_cons_succ]
            (try simp only [hd])
            clear hd
            have cc := hS.x.cell HC11.out
            go_wp2
            exact ⟨rfl, rfl, rfl, belB⟩
          · (try simp only [DepsL, DL, IsV, List.getD_cons_zero, List.getD_cons_succ, Region.binds, and_true, true_and] at hd)
            simp only [putL, List.take_succ_cons, List.take_zero, List.drop_succ_cons, List.drop_zero, Act.put, List.setIfInBounds_toArray, List.set_cons_succ, List.set_cons_zero, List.getD_cons_zero, List.getD_cons_succ]
            (try simp only [hd])
            clear hd
            go_wp2
            exact ⟨rfl, rfl, rfl, belB⟩
          · (try simp only [DepsL, DL, IsV, List.getD_cons_zero, List.getD_cons_succ, Region.binds, and_true, true_and] at hd)
            simp only [putL, List.take_succ_cons, List.take_zero, List.drop_succ_cons, List.drop_zero, Act.put, List.setIfInBounds_toArray, List.set_cons_succ, List.set_cons_zero, List.getD_cons_zero, List.getD_cons_succ]
            (try simp only [hd])
            clear hd
            have cc := hS.x.cell HC7.out
            go_wp2
            exact ⟨rfl, rfl, rfl, belB⟩
          · (try simp only [DepsL, DL, IsV, List.getD_cons_zero, List.getD_cons_succ, Region.binds, and_true, true_and] at hd)
            simp only [putL, List.take_succ_cons, List.take_zero, List.drop_succ_cons, List.drop_zero, Act.put, List.setIfInBounds_toArray, List.set_cons_succ, List.set_cons_zero, List.getD_cons_zero, List.getD_cons_succ]
            (try simp only [hd])
            clear hd
            go_wp2
            exact ⟨rfl, rfl, rfl, belB⟩
          · (try simp only [DepsL, DL, IsV, List.getD_cons_zero, List.getD_cons_succ, Region.binds, and_true, true_and] at hd)
            simp only [putL, List.take_succ_cons, List.take_zero, List.drop_succ_cons, List.drop_zero, Act.put, List.setIfInBounds_toArray, List.set_cons_succ, List.set_cons_zero, List.getD_cons_zero, List.getD_cons_succ]
            (try simp only [hd])
            clear hd
            go_wp2_with (go_at_call 60; refine (HCI.out (x.r.vary.length : Int) (vary_ok HNO.out) W (bstep HS.out.b hS.b)).mono ?_; rintro e w2 ⟨rfl, hb2⟩)
            exact ⟨rfl, rfl, rfl, belB⟩
          · (try simp only [DepsL, DL, IsV, List.getD_cons_zero, List.getD_cons_succ, Region.binds, and_true, true_and] at hd)
            simp only [putL, List.take_succ_cons, List.take_zero, List.drop_succ_cons, List.drop_zero, Act.put, List.setIfInBounds_toArray, List.set_cons_succ, List.set_cons_zero, List.getD_cons_zero, List.getD_cons_succ]
            (try simp only [hd])
            clear hd
            go_wp2
            exact ⟨rfl, ⟨_, rfl, reads_new W 9 ([x.r.name, x.r.pat, sepT 44 x.r.tags, numT [x.r.fresh, x.r.stale, x.r.down, x.r.neg, x.r.cost], tx, ob, x.r.prog, itoaB (x.r.vary.length : Int)].map .string) 8 rfl⟩, rfl, belB⟩
        · intro vals w9 hS9 hD
          have e0 : vals 0 = .slice B acc.length d := hD 0 (by omega)
          obtain ⟨b8, e28, r8⟩ : Strs 8 [x.r.name, x.r.pat, sepT 44 x.r.tags, numT [x.r.fresh, x.r.stale, x.r.down, x.r.neg, x.r.cost], tx, ob, x.r.prog, itoaB (x.r.vary.length : Int)] (vals 28) w9 := hD 28 (by omega)
          simp only [putL, List.take_succ_cons, List.take_zero, List.drop_succ_cons, List.drop_zero, Act.put, List.setIfInBounds_toArray, List.set_cons_succ, List.set_cons_zero, List.getD_cons_zero, List.getD_cons_succ]
          simp only [e0, e28]
          clear hD e0 e28 HB8
          have hown9 := ownsRow_keep hown hS9.b
          have hN9 := HS.out.keep hS9.b
          have hs9 := hS9.b.size
          go_upto_region 10 with (at_builtin; refine wpList_append_own _ rfl _ _ 27 rfl (w.heap.size + 2) 9 i0 (.string ⟨#[]⟩) 1 16 Tryz.underlying27 HI.out.1 HI.out.2.1 HI.out.2.2.1 HI.out.2.2.2 rfl (by decide) _ _ _ rfl hown9 ⟨b8, 0, none⟩ 8 8 ([x.r.name, x.r.pat, sepT 44 x.r.tags, numT [x.r.fresh, x.r.stale, x.r.down, x.r.neg, x.r.cost], tx, ob, x.r.prog, itoaB (x.r.vary.length : Int)].map .string) rfl rfl (strs_news (by omega) r8) (strs_one _) (by unfold maxLen; omega) (by omega) (by have := hS9.b.size; have := HS.out.s; omega) ?_; intro v' w10 hown' hgrow _; obtain ⟨g', cap', rfl⟩ := ownsRow_succ hown')
          have hb10 : Below (w.heap.size + 2) w9 w10 := Below.grown (Below.refl _ _) hgrow (by have := HS.out.s; omega) (fun r e => ownsRow_block hown r e)
          have hN10 : NSt w PL ZD w10 := hN9.keep2 hb10
          have c7 : w10.cell? ⟨wr.heap.size, 7, none⟩ = some (.slice x.V x.r.vary.length x.cv) := (World.cell?_of_block (hgrow.block wr.heap.size (by have := cell_lt (hS9.x.cell HC7.out); exact this) (fun e => by have := (hown.lt _ e.symm).2; omega))).trans (hS9.x.cell HC7.out)
          have hHD : headR x.r = [x.r.name, x.r.pat, sepT 44 x.r.tags, numT [x.r.fresh, x.r.stale, x.r.down, x.r.neg, x.r.cost], tx, ob, x.r.prog, itoaB (x.r.vary.length : Int)] := by rw [HTE.out, HOB.out, HSG.out]; rfl
          rw [← hHD, ← List.map_append] at hown'
          have hal : (acc ++ headR x.r).length = acc.length + 8 := by rw [List.length_append]; rfl
          obtain ⟨acc2, hacc2⟩ : ∃ acc2, acc2 = acc ++ headR x.r := ⟨_, rfl⟩
          have hsp : acc ++ partsR x.r = acc2 ++ (x.r.vary.drop 0).flatMap partsV := by rw [hacc2, List.drop_zero, List.append_assoc]; rfl
          rw [← hacc2] at hown' hal
          rw [← hal] at hown' ⊢
          have HN10 := Lib.hid hN10; have HO10 := Lib.hid hown'; have HSP := Lib.hid hsp
          clear hN10 hown' hsp hHD hacc2 hgrow hb10 hN9 hown9 hs9 r8
          have hal2 : acc2.length ≤ 2 + k * 38 + 8 := by omega
          clear hal
          go_wp2_with fail
          clear c7
          have HAL := Lib.hid hal2
          clear hal2
          obtain ⟨nv, hnv⟩ : ∃ nv, nv = x.r.vary.length := ⟨_, rfl⟩
          have HNV := Lib.hid hnv
          rw [← hnv]
          clear hnv
          have hnv10 : nv ≤ 10 := by have := HNV.out; have := HNO.out.fits.nv; omega
          obtain ⟨wo, rfl⟩ : ∃ wo : World, wo = wr := ⟨_, rfl⟩
          go_loopw [3, 65] (fun pv jv wz => ∃ (j : Nat) (acc2 : List ByteArray) (B2 : Option Addr) (d2 : Nat), j ≤ nv ∧ jv = .int .i64 j ∧ pv = .slice B2 acc2.length d2 ∧ acc2.length ≤ 2 + k * 38 + 8 + 3 * j ∧ Hid (acc ++ partsR x.r = acc2 ++ (x.r.vary.drop j).flatMap partsV) ∧ wz.ownsRow (w.heap.size + 2) 9 1 (.slice B2 acc2.length d2) acc2.length (acc2.map .string) ∧ Hid (NSt w PL ZD wz)) (fun _ jv _ => nv - (intOf jv).toNat)
          case atStart => exact ⟨0, acc2, some ⟨g', 0, none⟩, cap', by omega, rfl, rfl, by have := HAL.out; omega, HSP, HO10.out, HN10⟩
          case round =>
            clear HN10 HO10 HSP HAL
            obtain ⟨wz, rfl⟩ : ∃ wz : World, wz = wr := ⟨_, rfl⟩
            obtain ⟨j, acc3, B2, d2, hj, rfl, rfl, hal2, HSP, hown2, HZ⟩ := hrel
            by_cases hlt2 : j < nv
            · obtain ⟨y, hy⟩ : ∃ y, x.L[j]? = some y := ⟨_, List.getElem?_eq_getElem (by have h1 := congrArg List.length HRR.out.same; rw [List.length_map] at h1; have := HNV.out; omega)⟩
              have hym := List.mem_of_getElem? hy
              have hyv : x.r.vary[j]? = some y.v := by rw [← HRR.out.same, List.getElem?_map, hy]; rfl
              obtain ⟨bv, ov, hVV, hcell⟩ := Reads.row (HRR.out.vary.keep HZ.out.b) (fun a _ => a.cells_len) (by have h1 := congrArg List.length HRR.out.same; rw [List.length_map] at h1; exact h1) hy
              have hdy : x.r.vary.drop j = y.v :: x.r.vary.drop (j + 1) := by
                obtain ⟨hl2, e⟩ := List.getElem?_eq_some_iff.1 hyv
                rw [← e]
                exact List.drop_eq_getElem_cons hl2
              have hsp2 := HSP.out
              rw [hdy, List.flatMap_cons, ← List.append_assoc] at hsp2
              have hly := vary_load wz bv (ov + j * 3) y hcell
              have hy0 : y.cells.toArray[0]? = some (.string y.v.header) := rfl
              have hy1 : y.cells.toArray[1]? = some (.slice y.A y.v.values.length y.c) := rfl
              have hy2 : y.cells.toArray[2]? = some (.string y.v.dflt) := rfl
              have hys : y.cells.toArray.size = 3 := rfl
              have hyi : (Tryz.prog.info? 99).map (·.size) = some y.cells.toArray.size := by rw [hys]; exact infVary
              have hyz : y.cells.toArray.size = (#[.string ⟨#[]⟩, .slice none 0 0, .string ⟨#[]⟩] : Array Value).size := rfl
              have hyo : y.cells.toArray.all (·.oneCell') = true := by rw [List.all_toArray]; rfl
              have hyr := HRR.out.each y hym
              have hyc := HNO.out.cy y hym
              have hyf := HNO.out.fits.v y.v (List.mem_of_getElem? hyv)
              generalize y.cells.toArray = Y at *
              have HLY := Lib.hid hly; have HY0 := Lib.hid hy0; have HY1 := Lib.hid hy1; have HY2 := Lib.hid hy2; have HYI := Lib.hid hyi; have HYZ := Lib.hid hyz; have HYO := Lib.hid hyo; have HYR := Lib.hid hyr; have HYC := Lib.hid hyc; have HYF := Lib.hid hyf; have HSP2 := Lib.hid hsp2; have HVV := Lib.hid hVV
              clear hly hy0 hy1 hy2 hyi hyz hyo hyr hyc hyf hsp2 hdy hcell hyv hym hy hys HSP
              have hj0 : (0 : Int) ≤ (j : Int) := by omega
              have hj1 : (j : Int) < (nv : Int) := by omega
              rw [HVV.out]
              go_upto_region 13 with (first | (refine wpList_load_addr rfl 99 _ rfl ⟨bv, ov + j * 3, none⟩ (.agg Y) rfl HLY.out ?_) | (refine wpList_store_row rfl _ _ _ rfl wz.heap.size Y rfl rfl _ #[.string ⟨#[]⟩, .slice none 0 0, .string ⟨#[]⟩] ((heap_alloc_new wz _).trans rfl) HYI.out HYZ.out.symm HYO.out ?_; generalize hw6 : World.setRow _ _ _ = w6; have B6 : Box1 w6 wz.heap.size 99 Y := (by rw [← hw6]; exact setRow_heap _ _ _ _ _ _ (heap_alloc_new wz _)); have hb6 : Below wz.heap.size wz w6 := (by rw [← hw6]; exact below_setRow ((Below.refl _ _).alloc (Nat.le_refl _) _) (Nat.le_refl _) _); clear hw6))
              have HB6 := Lib.hid (R13S.mk (w0 := wz) B6 hb6)
              clear B6 hb6
              refine wp_detD 9 (by kernel_rfl) (by kernel_rfl) (by kernel_rfl) (DL [IsV (.slice B2 acc3.length d2), IsV (.pointer (some ⟨wz.heap.size, 0, none⟩)), IsV (.string y.v.header), IsV (.pointer (some ⟨wz.heap.size, 1, none⟩)), IsV (.slice y.A y.v.values.length y.c), IsV (.string (sepT 32 y.v.values)), IsV (.pointer (some ⟨wz.heap.size, 2, none⟩)), IsV (.string y.v.dflt), Strs 3 (partsV y.v)]) (DL.keep _ (by simp only [KeepAll]; repeat' (first | apply And.intro | exact keeps_is _ | exact keeps_five _ | exact keeps_strs _ _ | exact trivial))) (R13S wz.heap.size Y wz) (HB6.out.keep (Below.drew (Below.refl _ _))) (fun _ _ h hb => h.keep hb) ?_ ?_
              · dsimp only [List.take_succ_cons, List.take_zero, DetD]
                refine ⟨fun vals W hS hd => ?_, fun vals W hS hd => ?_, fun vals W hS hd => ?_, fun vals W hS hd => ?_, fun vals W hS hd => ?_, fun vals W hS hd => ?_, fun vals W hS hd => ?_, fun vals W hS hd => ?_, fun vals W hS hd => ?_, trivial⟩
                · (try simp only [DepsL, DL, IsV, List.getD_cons_zero, List.getD_cons_succ, Region.binds, and_true, true_and] at hd)
                  simp only [putL, List.take_succ_cons, List.take_zero, List.drop_succ_cons, List.drop_zero, Act.put, List.setIfInBounds_toArray, List.set_cons_succ, List.set_cons_zero, List.getD_cons_zero, List.getD_cons_succ]
                  (try simp only [hd])
                  clear hd
                  go_wp2
                  exact ⟨rfl, rfl, rfl, belB⟩
                · (try simp only [DepsL, DL, IsV, List.getD_cons_zero, List.getD_cons_succ, Region.binds, and_true, true_and] at hd)
                  simp only [putL, List.take_succ_cons, List.take_zero, List.drop_succ_cons, List.drop_zero, Act.put, List.setIfInBounds_toArray, List.set_cons_succ, List.set_cons_zero, List.getD_cons_zero, List.getD_cons_succ]
                  (try simp only [hd])
                  clear hd
                  go_wp2
                  exact ⟨rfl, rfl, rfl, belB⟩
                · (try simp only [DepsL, DL, IsV, List.getD_cons_zero, List.getD_cons_succ, Region.binds, and_true, true_and] at hd)
                  simp only [putL, List.take_succ_cons, List.take_zero, List.drop_succ_cons, List.drop_zero, Act.put, List.setIfInBounds_toArray, List.set_cons_succ, List.set_cons_zero, List.getD_cons_zero, List.getD_cons_succ]
                  (try simp only [hd])
                  clear hd
                  have cc := hS.x.cell HY0.out
                  go_wp2
                  exact ⟨rfl, rfl, rfl, belB⟩
                · (try simp only [DepsL, DL, IsV, List.getD_cons_zero, List.getD_cons_succ, Region.binds, and_true, true_and] at hd)
                  simp only [putL, List.take_succ_cons, List.take_zero, List.drop_succ_cons, List.drop_zero, Act.put, List.setIfInBounds_toArray, List.set_cons_succ, List.set_cons_zero, List.getD_cons_zero, List.getD_cons_succ]
                  (try simp only [hd])
                  clear hd
                  go_wp2
                  exact ⟨rfl, rfl, rfl, belB⟩
                · (try simp only [DepsL, DL, IsV, List.getD_cons_zero, List.getD_cons_succ, Region.binds, and_true, true_and] at hd)
                  simp only [putL, List.take_succ_cons, List.take_zero, List.drop_succ_cons, List.drop_zero, Act.put, List.setIfInBounds_toArray, List.set_cons_succ, List.set_cons_zero, List.getD_cons_zero, List.getD_cons_succ]
                  (try simp only [hd])
                  clear hd
                  have cc := hS.x.cell HY1.out
                  go_wp2
                  exact ⟨rfl, rfl, rfl, belB⟩
                · (try simp only [DepsL, DL, IsV, List.getD_cons_zero, List.getD_cons_succ, Region.binds, and_true, true_and] at hd)
                  simp only [putL, List.take_succ_cons, List.take_zero, List.drop_succ_cons, List.drop_zero, Act.put, List.setIfInBounds_toArray, List.set_cons_succ, List.set_cons_zero, List.getD_cons_zero, List.getD_cons_succ]
                  (try simp only [hd])
                  clear hd
                  go_wp2_with (go_at_call 62; refine (sepR_any 32 y.A y.v.values.length y.c y.v.values W (HYR.out.keep (bstep HZ.out.b hS.b)) HYC.out (by have := HYF.out.n; omega) (by have := sep10 32 y.v.values HYF.out.n HYF.out.x; omega)).mono ?_; rintro e w2 ⟨rfl, hb2⟩)
                  exact ⟨rfl, rfl, rfl, belB⟩
                · (try simp only [DepsL, DL, IsV, List.getD_cons_zero, List.getD_cons_succ, Region.binds, and_true, true_and] at hd)
                  simp only [putL, List.take_succ_cons, List.take_zero, List.drop_succ_cons, List.drop_zero, Act.put, List.setIfInBounds_toArray, List.set_cons_succ, List.set_cons_zero, List.getD_cons_zero, List.getD_cons_succ]
                  (try simp only [hd])
                  clear hd
                  go_wp2
                  exact ⟨rfl, rfl, rfl, belB⟩
                · (try simp only [DepsL, DL, IsV, List.getD_cons_zero, List.getD_cons_succ, Region.binds, and_true, true_and] at hd)
                  simp only [putL, List.take_succ_cons, List.take_zero, List.drop_succ_cons, List.drop_zero, Act.put, List.setIfInBounds_toArray, List.set_cons_succ, List.set_cons_zero, List.getD_cons_zero, List.getD_cons_succ]
                  (try simp only [hd])
                  clear hd
                  have cc := hS.x.cell HY2.out
                  go_wp2
                  exact ⟨rfl, rfl, rfl, belB⟩
                · (try simp only [DepsL, DL, IsV, List.getD_cons_zero, List.getD_cons_succ, Region.binds, and_true, true_and] at hd)
                  simp only [putL, List.take_succ_cons, List.take_zero, List.drop_succ_cons, List.drop_zero, Act.put, List.setIfInBounds_toArray, List.set_cons_succ, List.set_cons_zero, List.getD_cons_zero, List.getD_cons_succ]
                  (try simp only [hd])
                  clear hd
                  go_wp2
                  exact ⟨rfl, ⟨_, rfl, reads_new W 9 ((partsV y.v).map .string) 3 rfl⟩, rfl, belB⟩
              · intro vals w9 hS9 hD
                have e0 : vals 0 = .slice B2 acc3.length d2 := hD 0 (by omega)
                obtain ⟨b8, e8, r8⟩ : Strs 3 (partsV y.v) (vals 8) w9 := hD 8 (by omega)
                simp only [putL, List.take_succ_cons, List.take_zero, List.drop_succ_cons, List.drop_zero, Act.put, List.setIfInBounds_toArray, List.set_cons_succ, List.set_cons_zero, List.getD_cons_zero, List.getD_cons_succ]
                simp only [e0, e8]
                clear hD e0 e8 HB6
                have hown9 := ownsRow_keep hown2 hS9.b
                have hN9 := HZ.out.keep hS9.b
                have hs9 := hS9.b.size
                go_wp2_with (at_builtin; refine wpList_append_own _ rfl _ _ 27 rfl (w.heap.size + 2) 9 i0 (.string ⟨#[]⟩) 1 16 Tryz.underlying27 HI.out.1 HI.out.2.1 HI.out.2.2.1 HI.out.2.2.2 rfl (by decide) _ _ _ rfl hown9 ⟨b8, 0, none⟩ 3 3 ((partsV y.v).map .string) rfl rfl (strs_news (by omega) r8) (strs_one _) (by unfold maxLen; omega) (by omega) (by have := hS9.b.size; have := HZ.out.s; omega) ?_; intro v' w10 hown' hgrow _; obtain ⟨g', cap', rfl⟩ := ownsRow_succ hown')
                have hb10 : Below (w.heap.size + 2) w9 w10 := Below.grown (Below.refl _ _) hgrow (by have := HZ.out.s; omega) (fun r e => ownsRow_block hown2 r e)
                have hN10 : NSt w PL ZD w10 := hN9.keep2 hb10
                rw [← List.map_append] at hown'
                have hal : (acc3 ++ partsV y.v).length = acc3.length + 3 := by rw [List.length_append]; rfl
                refine ⟨⟨j + 1, acc3 ++ partsV y.v, some ⟨g', 0, none⟩, cap', by omega, by go_num, by rw [hal], by omega, HSP2, by rw [hal]; exact hown', Lib.hid hN10⟩, by simp [intOf]; omega⟩
            · have hjn : j = nv := by omega
              have hend := HSP.out
              rw [List.drop_eq_nil_of_le (by have := HNV.out; omega)] at hend
              have hVE := HVA.out
              rw [hend] at hVE
              simp only [List.flatMap_nil, List.append_nil] at hVE
              have HVE := Lib.hid hVE
              have hLE := congrArg List.length hend
              have hlp := partsR_len HNO.out
              clear hVE hend HSP HVA
              go_wp2
              refine ⟨⟨k + 1, acc3, B2, d2, by omega, by go_num, rfl, ?_, HVE, hown2, HZ⟩, by simp [intOf]; omega⟩
              simp at hLE
              omega
    · have hkn : k = n := by omega
      have hVE := HVA.out
      rw [List.drop_eq_nil_of_le (by have := HLN.out; omega), List.map_nil, List.flatMap_nil, List.append_nil] at hVE
      subst hVE
      have hRV := Reads.of_own hown
      have hz := HS.out.z
      have hdl : DG.size = 16 := by rw [← HDG.out]; simp [b8_len, Sha.ofD]; rfl
      have hdo : DG.all (·.oneCell') = true := by rw [← HDG.out, List.all_toArray, List.all_eq_true]; exact b8_one _
      have hdi : (Tryz.prog.info? 38).map (·.size) = some DG.size := by rw [hdl]; exact infDig
      have hzs : ZD.size = DG.size := by rw [HZD.out, hdl]
      have HDO := Lib.hid hdo; have HDI := Lib.hid hdi; have HZS := Lib.hid hzs
      clear hdl hdo hdi hzs
      go_wp2_with (first | (go_at_call 64; refine (HCO.out _ _ _ hRV HS.out.b).mono ?_; rintro e w2 ⟨rfl, hb2⟩; have hN2 := HS.out.keep hb2) | (refine wpList_store_row rfl _ _ _ rfl (w.heap.size + 1) DG rfl rfl _ ZD hN2.z HDI.out HZS.out HDO.out ?_))
      have hzz : (w2.setRow (w.heap.size + 1) DG).heap[w.heap.size + 1]? = some (.cells DG 38 (0, 0)) := setRow_heap _ _ _ _ _ _ hN2.z
      exact bodyPost_ret (v := .agg DG) (results_cell_row rfl _ _ _ _ _ _ _ rfl hzz Tryz.underlying38 rfl HDI.out) rfl ⟨rfl, below_setRow hN2.b (by omega) _⟩
end Go.Proofs.YtjhlpkhfdghngaaGreatDoor
