/- variant.Key. -/
import Derived.Test.YtmlhecjhjjlhfaaGreatDoorSZ43
import Derived.Test.YtmlhecjhjjlhfaaGreatDoorProg
import Derived.WalkKit
import Derived.WalkSpells
import Derived.WalkLawsBesides
import Derived.Below
import Derived.Deep.QuietTactic
import Derived.BigQuiet
import Derived.Lib.QuietBelow
import Derived.Lib.Strings
import Derived.Lib.Hide
import Derived.Deep.RegionWith
import Derived.Deep.RegionHeld3
import Derived.Lib.IndexBytes
import Derived.Test.YtmlhecjhjjlhfaaGreatDoorSZ30
import Derived.Test.YtmlhecjhjjlhfaaGreatDoorSZ31
import Derived.Test.YtmlhecjhjjlhfaaGreatDoorSZ36
import Derived.Test.YtmlhecjhjjlhfaaGreatDoorSZ23
import Derived.Test.YtmlhecjhjjlhfaaGreatDoorSZ26
import Derived.Deep.DeepCutAuto
namespace Go.Proofs.YtmlhecjhjjlhfaaGreatDoor
open Go.RowKit Go.Sort
set_option linter.unusedVariables false
set_option linter.unusedSimpArgs false
set_option maxRecDepth 100000
def keyB (l : List VaryV) (H : List Hdr) : ByteArray := sepT 38 (List.zipWith kpB l (l.map fun v => valueV v H))
theorem keyB_data (l : List VaryV) (H : List Hdr) : (keyB l H).data.toList = keyV l H := by
  have hz : ∀ (l : List VaryV) (xs : List ByteArray), (List.zipWith kpB l xs).map (·.data.toList) = List.zipWith partV l xs := by
    intro l
    induction l with
    | nil => intro xs; rfl
    | cons v l ih =>
      intro xs
      cases xs with
      | nil => rfl
      | cons x xs => rw [List.zipWith_cons_cons, List.zipWith_cons_cons, List.map_cons, ih, kpB_data]
  unfold keyB sepT keyV keyL
  rw [hz]
theorem value_size (v : VaryV) (H : List Hdr) (h : VaryFits v) : (valueV v H).size ≤ 200 := by
  unfold valueV
  split
  · split
    · rename_i hc
      exact h.x _ ((Lib.containsS_iff _ _).1 hc)
    · exact h.d
  · exact h.d
set_option maxHeartbeats 8000000 in
theorem Key_any (A : Option Addr) (n c : Nat) (L : List VaryM) (HA : Option Addr) (m d : Nat) (H : List Hdr) (w : World) (hL : VarysRead w A n L) (hH : HdrsRead w HA m H) (hf : ∀ x ∈ L, VaryFits x.v) (hn : n ≤ 10) (hm : m ≤ 1000) :
    Calls Tryz.prog 10 #[.slice A n c, .slice HA m d] w (Ret w (.string (keyB (L.map (·.v)) H))) := by
  have hl : L.length = n := hL.len
  obtain ⟨i0, hi0, hz0, hz1, hz2⟩ := info_parts infStrW
  have HI := Lib.hid (And.intro hi0 (And.intro hz0 (And.intro hz1 hz2)))
  obtain ⟨ps, hps⟩ : ∃ ps, ps = L.map fun y => valueV y.v H := ⟨_, rfl⟩
  have hpl : ps.length = n := by rw [hps, List.length_map]; exact hl
  have hpk : ∀ (k : Nat) (y : VaryM), L[k]? = some y → ps[k]? = some (valueV y.v H) := fun k y h1 => by rw [hps, List.getElem?_map, h1]; rfl
  have hpz : ∀ p ∈ ps, p.size ≤ 200 := by
    intro p hp
    rw [hps] at hp
    obtain ⟨y, hy, rfl⟩ := List.mem_map.1 hp
    exact value_size _ _ (hf y hy)
  have cV := fun (y : VaryM) (hy : y ∈ L) (W : World) (hb : Below w.heap.size w W) => value_any y HA m d H W (hH.keep hb) (VaryReads.keep (hL.each y hy) hb) hm (by have := (hf y hy).n; omega)
  have cK := fun (W : World) (hb : Below w.heap.size w W) (B : Option Addr) (d2 : Nat) (hR : Reads W 1 B n (ps.map .string)) => vkey_any A n c L B d2 ps W (hL.keep hb) hR hf hpz hn
  have hke : sepT 38 (List.zipWith kpB (L.map (·.v)) ps) = keyB (L.map (·.v)) H := by
    unfold keyB
    rw [hps, List.map_map]; rfl
  rw [hke] at cK
  generalize keyB (L.map (·.v)) H = V at *
  have HL := Lib.hid hL; have HLN := Lib.hid hl; have HPL := Lib.hid hpl; have HPK := Lib.hid hpk; have HV := Lib.hid cV; have HK := Lib.hid cK
  clear hi0 hz0 hz1 hz2 hL hH hf hl hps hpl hpz hpk cV cK hke
  go_enter Tryz.func10, Tryz.ntmps10
  go_wp2_with (refine wpList_make_full _ rfl _ _ 32 rfl w.heap.size 9 i0 (.string ⟨#[]⟩) 1 Tryz.underlying32 HI.out.1 HI.out.2.1 HI.out.2.2.1 .i64 .i64 n n n rfl rfl rfl rfl (by rw [HI.out.2.2.2]; omega) (by unfold maxLen; omega) (by omega) ?_; intro w1 hown1 hgr1; have hb1 : Below w.heap.size w w1 := (Below.refl _ _).grown hgr1 (Nat.le_refl _) (fun r e => by cases e); have HOW := Lib.hid hown1; clear hgr1 hown1)
  have hown1 := HOW.out
  rw [← rowP_zero ps n] at hown1
  have HOW1 := Lib.hid hown1
  clear hown1 HOW
  go_loopw [13] (fun iv wr => ∃ k : Nat, k ≤ n ∧ iv = .int .i64 k ∧ Hid (wr.ownsRow w.heap.size 9 1 (.slice (some ⟨w.heap.size, 0, none⟩) n n) n (rowP ps n k)) ∧ Below w.heap.size w wr) (fun iv _ => n - (intOf iv).toNat)
  case atStart => exact ⟨0, by omega, rfl, HOW1, hb1⟩
  case round =>
    obtain ⟨k, hk, rfl, HO, hbr⟩ := hrel
    clear HOW1 hb1
    by_cases hlt : k < n
    · obtain ⟨y, hy⟩ : ∃ y, L[k]? = some y := ⟨_, List.getElem?_eq_getElem (by have := HLN.out; omega)⟩
      have hpk := HPK.out k y hy
      have hst := rowP_step ps n k _ hlt hpk
      have hval := HV.out y (List.mem_of_getElem? hy)
      obtain ⟨_, b, o, rfl, hcell⟩ := (HL.out.keep hbr).at_ hy
      have hld := varyA_load wr b (o + k * 3) y hcell
      have hone : y.cells.toArray.all (·.oneCell') = true := by rw [List.all_toArray]; rfl
      have hsz2 : y.cells.toArray.size = 3 := by rw [List.size_toArray, y.cells_len]
      have hi3 : (Tryz.prog.info? 83).map (·.size) = some y.cells.toArray.size := by rw [hsz2]; exact infVar
      have hsz : y.cells.toArray.size = (#[.string ⟨#[]⟩, .slice none 0 0, .string ⟨#[]⟩] : Array Value).size := by rw [hsz2]; rfl
      unfold VaryM.val at hld hval
      generalize y.cells.toArray = X at *
      generalize valueV y.v H = vv at *
      have HLD := Lib.hid hld; have HVA := Lib.hid hval; have HON := Lib.hid hone; have HXS := Lib.hid hsz2; have HI3 := Lib.hid hi3; have HSZ := Lib.hid hsz; have HST := Lib.hid hst
      clear hld hval hone hsz2 hi3 hsz hcell hy hpk hst
      have hk0 : (0 : Int) ≤ (k : Int) := by omega
      have hk1 : (k : Int) < (n : Int) := by omega
      go_wp2_with (first | (refine wpList_load_addr rfl 83 _ rfl ⟨b, o + k * 3, none⟩ (.agg X) rfl HLD.out ?_) | (refine wpList_store_row rfl 83 _ _ rfl wr.heap.size X rfl rfl _ #[.string ⟨#[]⟩, .slice none 0 0, .string ⟨#[]⟩] ((heap_alloc_new wr _).trans rfl) HI3.out HSZ.out.symm HON.out ?_; generalize hw6 : World.setRow _ _ _ = w6; have B6 : Box1 w6 wr.heap.size 83 X := (by rw [← hw6]; exact setRow_heap _ _ _ _ _ _ (heap_alloc_new wr _)); have hb6 : Below wr.heap.size wr w6 := (by rw [← hw6]; exact below_setRow ((Below.refl _ _).alloc (Nat.le_refl _) _) (Nat.le_refl _) _); clear hw6) | (refine wpList_load_addr rfl 83 _ rfl ⟨wr.heap.size, 0, none⟩ (.agg X) rfl (B6.vary HXS.out) ?_) | (go_at_call 31; refine (HVA.out _ (bstep hbr hb6)).mono ?_; rintro e w7 ⟨rfl, hb7⟩; have hb67 := bstep hb6 hb7; have ho7 := ownsRow_keep HO.out hb67; have hc9 : w7.cell? ⟨w.heap.size, k, none⟩ = some (.string ⟨#[]⟩) := (by rw [ho7.cellAt k (by omega)]; unfold rowP; have hlk : ((ps.take k).map Value.string).length = k := (by rw [List.length_map, List.length_take]; have := HPL.out; omega); rw [List.getElem?_append_right (by omega), hlk, Nat.sub_self, List.getElem?_replicate, if_pos (by omega)]); have hf9 := ho7.frozenAt k; have HO7 := Lib.hid ho7; clear ho7))
      refine ⟨⟨k + 1, by omega, by go_num, ?_, (bstep hbr hb67).setCell (p := ⟨w.heap.size, k, none⟩) (Nat.le_refl _) _⟩, by simp [intOf]; omega⟩
      have hfin := (HO7.out.stored k (.string vv)).1
      rw [HST.out] at hfin
      exact Lib.hid hfin
    · obtain rfl : k = n := by omega
      have hown := HO.out
      rw [rowP_end ps k HPL.out] at hown
      have hj := HK.out wr hbr (some ⟨w.heap.size, 0, none⟩) k (Reads.of_own hown)
      have HJ := Lib.hid hj
      clear hj hown HO
      go_wp2_with (go_at_call 32; refine HJ.out.mono ?_; rintro e w4 ⟨rfl, hb4⟩)
      go_ret
      exact ⟨rfl, bstep hbr hb4⟩
end Go.Proofs.YtmlhecjhjjlhfaaGreatDoor
namespace Go.Proofs.YtmlhecjhjjlhfaaGreatDoor
open Go.RowKit Go.Sort
set_option linter.unusedVariables false
set_option linter.unusedSimpArgs false
set_option maxRecDepth 100000
theorem same_keys (l : List VaryV) (g h : List Hdr) : ((keyB l g).toList == (keyB l h).toList) = sameV l g h := by
  unfold sameV
  rw [Lib.toList_data, Lib.toList_data, keyB_data, keyB_data]
  by_cases e : keyV l g = keyV l h
  · rw [decide_eq_true e, e]; simp
  · rw [decide_eq_false e]; simpa using e
theorem Same_any (A : Option Addr) (n c : Nat) (L : List VaryM) (GA : Option Addr) (gm gd : Nat) (G : List Hdr) (HA : Option Addr) (m d : Nat) (H : List Hdr) (w : World) (hL : VarysRead w A n L) (hG : HdrsRead w GA gm G) (hH : HdrsRead w HA m H) (hf : ∀ x ∈ L, VaryFits x.v) (hn : n ≤ 10) (hm : m ≤ 1000) (hgm : gm ≤ 1000) :
    Calls Tryz.prog 62 #[.slice A n c, .slice GA gm gd, .slice HA m d] w (Ret w (.bool (sameV (L.map (·.v)) G H))) := by
  have cG := fun (W : World) (hb : Below w.heap.size w W) => Key_any A n c L GA gm gd G W (hL.keep hb) (hG.keep hb) hf hn hgm
  have cH := fun (W : World) (hb : Below w.heap.size w W) => Key_any A n c L HA m d H W (hL.keep hb) (hH.keep hb) hf hn hm
  have hs := same_keys (L.map (·.v)) G H
  generalize keyB (L.map (·.v)) G = k1 at *
  generalize keyB (L.map (·.v)) H = k2 at *
  generalize sameV (L.map (·.v)) G H = v at *
  have HG := Lib.hid cG; have HH := Lib.hid cH; have HS := Lib.hid hs
  clear cG cH hL hG hH hf hs
  go_enter Tryz.func62, Tryz.ntmps62
  go_wp2_with fail
  refine (HG.out _ (Below.refl _ _)).mono ?_
  rintro e w1 ⟨rfl, hb1⟩
  go_wp2_with fail
  refine (HH.out _ hb1).mono ?_
  rintro e w2 ⟨rfl, hb2⟩
  go_wp2_with fail
  go_ret
  exact ⟨ret_bool HS.out, bstep hb1 hb2⟩
end Go.Proofs.YtmlhecjhjjlhfaaGreatDoor
namespace Go.Proofs.YtmlhecjhjjlhfaaGreatDoor
open Go.RowKit Go.Sort
set_option linter.unusedVariables false
set_option linter.unusedSimpArgs false
set_option maxRecDepth 100000
def DeadAt (L : List RuleM) (k : Nat) (x : RuleM) (a : AskV) (is : Bool) : Prop :=
  (is = true ∧ a = noAsk ∧ ((tagsR x.r.tags).2 ≠ 0 ∨ x.r.allow.till ≤ x.r.allow.fr ∨ ((tagsR x.r.tags).2 = 0 ∧ pmeet x.r.pat x.r.allow.pat = none) ∨ ((tagsR x.r.tags).2 = 0 ∧ x.r.allow.fr < x.r.allow.till ∧ ∃ m s, pmeet x.r.pat x.r.allow.pat = some m ∧ GapPost m (befK L x.r.tags k) s false))) ∨
  (is = false ∧ (tagsR x.r.tags).2 = 0 ∧ x.r.allow.fr < x.r.allow.till ∧ ∃ m s, pmeet x.r.pat x.r.allow.pat = some m ∧ GapPost m (befK L x.r.tags k) s true ∧ s.size ≤ 4096 ∧ a = { sampleC x.r.allow with addr := s })
theorem bothV_meet {p q : ByteArray} (hp : (compileB p).isSome = true) (hq : (compileB q).isSome = true) : bothV (bothP p q) = match pmeet p q with
    | some m => .tuple #[.string m, .bool true, .int .i64 0]
    | none => .tuple #[.string ⟨#[]⟩, .bool false, .int .i64 0] := by
  obtain ⟨x, hx⟩ := Option.isSome_iff_exists.1 hp
  obtain ⟨y, hy⟩ := Option.isSome_iff_exists.1 hq
  unfold bothP pmeet
  rw [if_neg (comp_ne hp), if_neg (comp_ne hq), hx, hy]
  dsimp only
  cases commonP x y <;> rfl
theorem infCon : (Tryz.prog.info? 36).map (·.size) = some 7 := by kernel_rfl
theorem agg_cond (w : World) : (isAgg 36).run Tryz.prog w = .ok true w := by
  unfold isAgg
  rw [Sem.run_bind, run_underlying Tryz.underlying36 w]
  rfl
theorem condA_load (W : World) (b o : Nat) (x : RuleM) (hc : ∀ j u, x.cells[j]? = some u → W.cell? ⟨b, o + j, none⟩ = some u) : (loadVar 36 ⟨b, o + 8, none⟩).run Tryz.prog W = .ok (CondMem.val x.r.allow x.m) W :=
  load_row_of 7 [.int .i64 x.r.allow.fr, .int .i64 x.r.allow.till, .string x.r.allow.pat, .slice x.m.A x.r.allow.cl.length x.m.ca, .slice x.m.B x.r.allow.co.length x.m.cb, .slice x.m.S x.r.allow.si.length x.m.cs, .int .i64 x.r.allow.us] rfl Tryz.underlying36 infCon agg_cond W b (o + 8) (fun j u hu => by
    have hj : j < 7 := (List.getElem?_eq_some_iff.1 hu).1
    have h8 : x.cells[8 + j]? = some u := by
      rw [← hu]
      match j, hj with
      | 0, _ => rfl
      | 1, _ => rfl
      | 2, _ => rfl
      | 3, _ => rfl
      | 4, _ => rfl
      | 5, _ => rfl
      | 6, _ => rfl
    have := hc (8 + j) u h8
    rwa [← Nat.add_assoc] at this)
theorem ABox.keepB {w w' : World} {g : Nat} {ad cl co : ByteArray} {si lo hi : Int} (h : ABox w g ad cl co si lo hi) (hb : Below w.heap.size w w') : ABox w' g ad cl co si lo hi := Blk.keep h hb
theorem ABox.free {w : World} {g : Nat} {ad cl co : ByteArray} {si lo hi : Int} (h : ABox w g ad cl co si lo hi) : w.frozen? ⟨g, 0, none⟩ = false ∧ w.frozen? ⟨g, 1, none⟩ = false ∧ w.frozen? ⟨g, 2, none⟩ = false ∧ w.frozen? ⟨g, 3, none⟩ = false ∧ w.frozen? ⟨g, 4, none⟩ = false ∧ w.frozen? ⟨g, 5, none⟩ = false :=
  ⟨Blk.free0 h 0, Blk.free0 h 1, Blk.free0 h 2, Blk.free0 h 3, Blk.free0 h 4, Blk.free0 h 5⟩
end Go.Proofs.YtmlhecjhjjlhfaaGreatDoor
namespace Go.Proofs.YtmlhecjhjjlhfaaGreatDoor
open Go.RowKit Go.Sort
set_option linter.unusedVariables false
set_option linter.unusedSimpArgs false
set_option maxRecDepth 100000
def DeadIs (x : RuleM) (ok : Bool) (m : ByteArray) : Prop := (ok = true → (tagsR x.r.tags).2 = 0 ∧ pmeet x.r.pat x.r.allow.pat = some m) ∧ (ok = false → (tagsR x.r.tags).2 ≠ 0 ∨ (tagsR x.r.tags).2 = 0 ∧ pmeet x.r.pat x.r.allow.pat = none)
def DeadPost (L : List RuleM) (k : Nat) (x : RuleM) (w : World) (e : Ending) (w' : World) : Prop := ∃ a is, e = .returned (.tuple #[AskV.val a, .bool is, .int .i64 0]) ∧ DeadAt L k x a is ∧ Below w.heap.size w w'
set_option maxHeartbeats 8000000 in
theorem dead_good (A : Option Addr) (n c k : Nat) (L : List RuleM) (x : RuleM) (w : World) (hL : RulesRead w A n L) (hf : ∀ x ∈ L, RuleFits x.r) (hcp : ∀ x ∈ L, RuleCaps x) (hcap : n ≤ c) (hn : n ≤ 10) (hE : Env w) (hT : Tab w) (hv : validL L = true) (hx : L[k]? = some x) :
    Calls Tryz.prog 14 #[.slice A n c, .int .i64 (k : Int)] w (DeadPost L k x w) := by
  have hlen := hL.len
  have hxm := List.mem_of_getElem? hx
  have hkn : k < n := by have := (List.getElem?_eq_some_iff.1 hx).1; omega
  have cV := fun (W : World) (hb : Below w.heap.size w W) => isValid_any A n c L W (hL.keep hb) hf hcp (by omega) (hE.keep hb)
  rw [hv] at cV
  have hro := (valid_at hv hxm).1
  have hco := (valid_iff x.r.allow).1 hro.allow
  have hfx := hf x hxm
  have cB : ∀ W, Below w.heap.size w W → Calls Tryz.prog 37 #[.slice A n c, .int .i64 (k : Int)] W (fun e w' => ∃ (B : Option Addr) (ln d : Nat), e = .returned (.tuple #[.slice B ln d, .bool (decide ((tagsR x.r.tags).2 = 0))]) ∧ ((tagsR x.r.tags).2 = 0 → ln = (befK L x.r.tags k).length ∧ Reads w' 1 B (befK L x.r.tags k).length ((befK L x.r.tags k).map .string)) ∧ Below W.heap.size W w') := fun W hb =>
    (befor_any A n c k L x W (hL.keep hb) hx (by omega) hcap hf).mono fun e w' h => by
      rcases h with ⟨hb', ⟨h, rfl⟩ | ⟨h, B, d, rfl, hr⟩⟩
      · exact ⟨none, 0, 0, by rw [decide_eq_false h], fun h2 => absurd h2 h, hb'⟩
      · exact ⟨B, _, d, by rw [decide_eq_true h], fun _ => ⟨rfl, hr⟩, hb'⟩
  obtain ⟨hrr, b, o, rfl, hcell⟩ := hL.at_ hx
  have cEM := fun (W : World) (hb : Below w.heap.size w W) => empty_any x.r.allow x.m W (hrr.allow.keep hb) hfx.c (hE.keep hb)
  have hemp : impV (emptyR x.r.allow) = .tuple #[.bool (decide (x.r.allow.till ≤ x.r.allow.fr)), AskV.val (if x.r.allow.till ≤ x.r.allow.fr then noAsk else sampleC x.r.allow), .int .i64 0] := by
    unfold emptyR
    rw [if_pos hro.allow]
    by_cases h : x.r.allow.till ≤ x.r.allow.fr
    · rw [if_pos h, if_pos h, decide_eq_true h]; rfl
    · rw [if_neg h, if_neg h, decide_eq_false h]; rfl
  rw [hemp] at cEM
  have hld := fun (W : World) (hb : Below w.heap.size w W) => condA_load W b (o + k * 18) x (fun j u hu => cell_keep hb (hcell j u hu))
  have cBo := fun (W : World) (hb : Below w.heap.size w W) => addrBoth_any x.r.pat x.r.allow.pat W (by have := hfx.pat; omega) hfx.c.p (hE.keep hb)
  have hc1 : w.cell? ⟨b, o + k * 18 + 1, none⟩ = some (.string x.r.pat) := hcell 1 _ rfl
  have hc10 : w.cell? ⟨b, o + k * 18 + 8 + 2, none⟩ = some (.string x.r.allow.pat) := hcell 10 _ rfl
  have hpz : x.r.pat.size ≠ 0 := comp_ne hro.pat
  have cG := fun (m : ByteArray) (hm : (compileB m).isSome = true) (hms : m.size ≤ 100000) (W : World) (hb : Below w.heap.size w W) (B : Option Addr) (d : Nat) hR => gapB_any (A := some ⟨b, o, none⟩) (n := n) (c := c) (w := W) hv hf x.r.tags k (by omega) m hm hms (hE.keep hb) (hT.keep hb) B d hR
  have hmc : ∀ m, pmeet x.r.pat x.r.allow.pat = some m → (compileB m).isSome = true ∧ m.size ≤ 100000 := fun m hm => by
    have hps : x.r.pat.size ≤ 200 := hfx.pat
    unfold pmeet at hm
    rw [if_neg hpz] at hm
    split at hm
    · injection hm with hm
      subst hm
      exact ⟨hro.pat, by omega⟩
    · rename_i hq
      have hqc : (compileB x.r.allow.pat).isSome = true := by
        have := hco.pat
        unfold patOk at this
        rwa [decide_eq_false hq, Bool.false_or] at this
      obtain ⟨x1, h1⟩ := Option.isSome_iff_exists.1 hro.pat
      obtain ⟨y1, h2⟩ := Option.isSome_iff_exists.1 hqc
      rw [h1, h2] at hm
      dsimp only at hm
      cases hcm : commonP x1 y1 with
      | none => rw [hcm] at hm; cases hm
      | some z =>
        rw [hcm] at hm
        injection hm with hm
        have hfz := (commonP_some (compile_fit h1) (compile_fit h2) hcm).1
        subst hm
        exact ⟨by rw [compile_str hfz]; rfl, by have := patS_size2 hfz; omega⟩
  have hqc : x.r.allow.pat.toList.isEmpty = false → (compileB x.r.allow.pat).isSome = true := fun h => by
    have h2 := hco.pat
    unfold patOk at h2
    rcases Nat.eq_zero_or_pos x.r.allow.pat.size with h3 | h3
    · rw [Lib.toList_data] at h
      rw [size_data] at h3
      rw [List.eq_nil_of_length_eq_zero h3] at h
      cases h
    · rwa [decide_eq_false (by omega), Bool.false_or] at h2
  have hpe : x.r.allow.pat.toList.isEmpty = true → pmeet x.r.pat x.r.allow.pat = some x.r.pat := fun h => by
    have h3 : x.r.allow.pat.size = 0 := by
      rw [Lib.toList_data, List.isEmpty_iff] at h
      rw [size_data, h]; rfl
    unfold pmeet
    rw [if_neg hpz, if_pos h3]
  have hbv := fun h => bothV_meet hro.pat (hqc h)
  obtain ⟨ok0, hok0⟩ : ∃ ok0, ok0 = decide ((tagsR x.r.tags).2 = 0) := ⟨_, rfl⟩
  obtain ⟨nn, hnn⟩ : ∃ nn, nn = decide (x.r.allow.till ≤ x.r.allow.fr) := ⟨_, rfl⟩
  obtain ⟨av, hav⟩ : ∃ av, av = (if x.r.allow.till ≤ x.r.allow.fr then noAsk else sampleC x.r.allow) := ⟨_, rfl⟩
  rw [← hok0] at cB
  rw [← hnn, ← hav] at cEM
  obtain ⟨ad, cl, co, si, lo, hi⟩ := av
  unfold AskV.val at cEM
  dsimp only at cEM
  have HV := Lib.hid cV; have HB := Lib.hid cB; have HEM := Lib.hid cEM; have HLD := Lib.hid hld; have HBO := Lib.hid cBo; have HC1 := Lib.hid hc1; have HC10 := Lib.hid hc10; have HG := Lib.hid cG; have HMC := Lib.hid hmc; have HBV := Lib.hid hbv; have HPE := Lib.hid hpe; have HOK := Lib.hid hok0; have HNN := Lib.hid hnn; have HAV := Lib.hid hav
  clear cV cB cEM hld cBo hc1 hc10 cG hmc hbv hpe hok0 hnn hav hqc hpz hcell hrr hfx hco hro hxm hlen hemp hx hv hE hT hcp hf hL
  have hk0 : (0 : Int) ≤ (k : Int) := by omega
  have hk1 : (k : Int) < (n : Int) := by omega
  have d0 : decide ((k : Int) < 0) = false := decide_eq_false (by omega)
  have d1 : decide ((n : Int) ≤ (k : Int)) = false := decide_eq_false (by omega)
  go_enter Tryz.func14, Tryz.ntmps14
  go_upto_region 1 with fail
  generalize hw0 : World.alloc _ _ = w0
  have hY : ABox w0 w.heap.size ⟨#[]⟩ ⟨#[]⟩ ⟨#[]⟩ 0 0 0 := by rw [← hw0]; exact heap_alloc_new w _
  have hbw : Below w.heap.size w w0 := by rw [← hw0]; exact balloc (Below.refl _ _) _
  clear hw0
  go_upto_region 4 with (first | (go_at_call 25; refine (HV.out _ hbw).mono ?_; rintro e w2 ⟨rfl, hb2⟩; replace hY := ABox.keepB hY hb2; replace hbw := bstep hbw hb2) | (go_at_call 37; refine (HB.out _ hbw).mono ?_; rintro e w3 ⟨B, ln, d, rfl, hbr, hb3⟩; replace hY := ABox.keepB hY hb3; replace hbw := bstep hbw hb3; have HBR := Lib.hid hbr; clear hbr))
  go_upto_region 5 with (first | (refine wpList_load_addr rfl 36 _ rfl ⟨b, o + k * 18 + 8, none⟩ (CondMem.val x.r.allow x.m) rfl (HLD.out _ hbw) ?_) | (go_at_call 38; refine (HEM.out _ hbw).mono ?_; rintro e w4 ⟨rfl, hb4⟩; replace hY := ABox.keepB hY hb4; replace hbw := bstep hbw hb4; have hs4 := hbw.size))
  have hRB4 := HBR.out
  have HB4 := Lib.hid hb4
  have hgw : w.heap.size < w4.heap.size := Blk.lt hY
  generalize hw5 : World.alloc _ _ = w5
  have hal : Below w4.heap.size w4 w5 := by rw [← hw5]; exact balloc (Below.refl _ _) _
  have hZ : ABox w5 w4.heap.size ad cl co si lo hi := by rw [← hw5]; exact heap_alloc_new w4 _
  replace hY := ABox.keepB hY hal
  replace hbw := bstep hbw hal
  have HR5 : Hid ((tagsR x.r.tags).2 = 0 → ln = (befK L x.r.tags k).length ∧ Reads w5 1 B (befK L x.r.tags k).length ((befK L x.r.tags k).map .string)) := Lib.hid (fun h => ⟨(hRB4 h).1, ((hRB4 h).2.keep hb4).keep hal⟩)
  clear hw5 hal hRB4 HBR HB4 hb2 hb3 hb4 hs4
  obtain ⟨g1, hg1⟩ : ∃ g1, g1 = w4.heap.size := ⟨_, rfl⟩
  rw [← hg1] at hZ hgw ⊢
  clear hg1 w4
  (have c1 := cell_keep hbw HC1.out; have c10 := cell_keep hbw HC10.out)
  go_upto_region 7 with fail
  clear c1 c10
  go_cut [61] (fun v61 wx => v61 = .bool (!x.r.allow.pat.toList.isEmpty && ok0) ∧ wx = w5)
  case first =>
    cases hqe : x.r.allow.pat.toList.isEmpty
    all_goals
      go_wp2_with fail
      go_meet
      exact ⟨by simp [hqe], rfl⟩
  obtain ⟨rfl, hwc⟩ := hcut
  have hwc2 : w5 = wc := hwc.symm
  subst hwc2
  go_upto_if 61 with fail
  go_cut [8, 12] (fun v8 v12 wx => ∃ (okb : Bool) (m : ByteArray), v8 = .bool okb ∧ v12 = .string m ∧ Hid (DeadIs x okb m) ∧ Below w5.heap.size w5 wx)
  case first =>
    cases hqe : x.r.allow.pat.toList.isEmpty
    · cases ok0
      · have ht : (tagsR x.r.tags).2 ≠ 0 := by have := HOK.out; exact of_decide_eq_false this.symm
        simp only [Bool.not_false, Bool.and_false]
        go_wp2_with fail
        go_meet
        exact ⟨false, x.r.pat, rfl, rfl, Lib.hid ⟨fun h => (by cases h), fun _ => .inl ht⟩, Below.refl _ _⟩
      · have ht : (tagsR x.r.tags).2 = 0 := by have := HOK.out; exact of_decide_eq_true this.symm
        have hbo := HBO.out w5 hbw
        rw [HBV.out hqe] at hbo
        cases hpm : pmeet x.r.pat x.r.allow.pat with
        | none =>
          rw [hpm] at hbo
          have HBQ := Lib.hid hbo; have HPM := Lib.hid hpm
          clear hbo hpm
          simp only [Bool.not_false, Bool.and_true]
          go_wp2_with (go_at_call 39; refine HBQ.out.mono ?_; rintro e w6 ⟨rfl, hb6⟩)
          go_meet
          exact ⟨false, ⟨#[]⟩, rfl, rfl, Lib.hid ⟨fun h => (by cases h), fun _ => .inr ⟨ht, HPM.out⟩⟩, hb6⟩
        | some m =>
          rw [hpm] at hbo
          have HBQ := Lib.hid hbo; have HPM := Lib.hid hpm
          clear hbo hpm
          simp only [Bool.not_false, Bool.and_true]
          go_wp2_with (go_at_call 39; refine HBQ.out.mono ?_; rintro e w6 ⟨rfl, hb6⟩)
          go_meet
          exact ⟨true, m, rfl, rfl, Lib.hid ⟨fun _ => ⟨ht, HPM.out⟩, fun h => (by cases h)⟩, hb6⟩
    · have hpm := HPE.out hqe
      have HPM := Lib.hid hpm
      clear hpm
      simp only [Bool.not_true, Bool.false_and]
      go_wp2_with fail
      go_meet
      refine ⟨ok0, x.r.pat, rfl, rfl, Lib.hid ⟨fun h => ⟨?_, HPM.out⟩, fun h => .inl ?_⟩, Below.refl _ _⟩
      · have := HOK.out; rw [h] at this; exact of_decide_eq_true this.symm
      · have := HOK.out; rw [h] at this; exact of_decide_eq_false this.symm
  case rest =>
    obtain ⟨okb, m, rfl, rfl, HDI, hbc⟩ := hcut
    replace hY := ABox.keepB hY hbc
    replace hZ := ABox.keepB hZ hbc
    replace hbw := bstep hbw hbc
    clear HBO HBV HPE HC1 HC10 HLD HEM HB HV
    have HRC : Hid ((tagsR x.r.tags).2 = 0 → ln = (befK L x.r.tags k).length ∧ Reads wc 1 B (befK L x.r.tags k).length ((befK L x.r.tags k).map .string)) := Lib.hid (fun h => ⟨(HR5.out h).1, (HR5.out h).2.keep hbc⟩)
    clear HR5
    cases okb
    · have hdi := HDI.out.2 rfl
      have hda : DeadAt L k x noAsk true := .inl ⟨rfl, rfl, hdi.elim .inl (fun h => .inr (.inr (.inl h)))⟩
      have HDA := Lib.hid hda
      clear hdi hda HDI
      (obtain ⟨y0, y1, y2, y3, y4, y5⟩ := hY.facts; obtain ⟨z0, z1, z2, z3, z4, z5⟩ := hY.free)
      go_wp2_with fail
      (obtain ⟨p0, p1, p2, p3, p4, p5⟩ := (hY.put ⟨#[]⟩ ⟨#[]⟩ ⟨#[]⟩ 0 0 0).facts; clear y0 y1 y2 y3 y4 y5 z0 z1 z2 z3 z4 z5)
      exact bodyPost_ret (v := .tuple #[.agg #[.string ⟨#[]⟩, .string ⟨#[]⟩, .string ⟨#[]⟩, .int .i64 0, .int .i64 0, .int .i64 0], .bool true, .int .i64 0]) (by simp only [results, Tryz.results14]; simp [go_sem, p0, p1, p2, p3, p4, p5]) rfl ⟨noAsk, true, rfl, HDA.out, below_put6 hbw (Nat.le_refl _) _ _ _ _ _ _⟩
    obtain ⟨ht, hpm⟩ := HDI.out.1 rfl
    cases nn
    rotate_left
    · have htf : x.r.allow.till ≤ x.r.allow.fr := of_decide_eq_true HNN.out.symm
      have hda : DeadAt L k x noAsk true := .inl ⟨rfl, rfl, .inr (.inl htf)⟩
      have HDA := Lib.hid hda
      clear hda HDI htf ht hpm
      (obtain ⟨y0, y1, y2, y3, y4, y5⟩ := hY.facts; obtain ⟨z0, z1, z2, z3, z4, z5⟩ := hY.free)
      go_wp2_with fail
      (obtain ⟨p0, p1, p2, p3, p4, p5⟩ := (hY.put ⟨#[]⟩ ⟨#[]⟩ ⟨#[]⟩ 0 0 0).facts; clear y0 y1 y2 y3 y4 y5 z0 z1 z2 z3 z4 z5)
      exact bodyPost_ret (v := .tuple #[.agg #[.string ⟨#[]⟩, .string ⟨#[]⟩, .string ⟨#[]⟩, .int .i64 0, .int .i64 0, .int .i64 0], .bool true, .int .i64 0]) (by simp only [results, Tryz.results14]; simp [go_sem, p0, p1, p2, p3, p4, p5]) rfl ⟨noAsk, true, rfl, HDA.out, below_put6 hbw (Nat.le_refl _) _ _ _ _ _ _⟩
    have htf : x.r.allow.fr < x.r.allow.till := by have := of_decide_eq_false HNN.out.symm; omega
    obtain ⟨hln, hrb⟩ := HRC.out ht
    subst hln
    obtain ⟨hm1, hm2⟩ := HMC.out m hpm
    have hg := HG.out m hm1 hm2 wc hbw B d hrb
    have HGP := Lib.hid hg; have HT0 := Lib.hid ht; have HPM := Lib.hid hpm
    clear hg ht hpm hrb hm1 hm2 HRC HDI HMC HG
    go_upto_region 12 with (go_at_call 36; refine HGP.out.mono ?_; rintro e w7 ⟨s, is, rfl, hpo, hsz, hb7⟩; have HPO := Lib.hid hpo; clear hpo)
    replace hY := ABox.keepB hY hb7
    replace hZ := ABox.keepB hZ hb7
    replace hbw := bstep hbw hb7
    cases is
    · have hda : DeadAt L k x noAsk true := .inl ⟨rfl, rfl, .inr (.inr (.inr ⟨HT0.out, htf, m, s, HPM.out, HPO.out⟩))⟩
      have HDA := Lib.hid hda
      clear hda
      (obtain ⟨y0, y1, y2, y3, y4, y5⟩ := hY.facts; obtain ⟨z0, z1, z2, z3, z4, z5⟩ := hY.free)
      go_wp2_with fail
      (obtain ⟨p0, p1, p2, p3, p4, p5⟩ := (hY.put ⟨#[]⟩ ⟨#[]⟩ ⟨#[]⟩ 0 0 0).facts; clear y0 y1 y2 y3 y4 y5 z0 z1 z2 z3 z4 z5)
      exact bodyPost_ret (v := .tuple #[.agg #[.string ⟨#[]⟩, .string ⟨#[]⟩, .string ⟨#[]⟩, .int .i64 0, .int .i64 0, .int .i64 0], .bool true, .int .i64 0]) (by simp only [results, Tryz.results14]; simp [go_sem, p0, p1, p2, p3, p4, p5]) rfl ⟨noAsk, true, rfl, HDA.out, below_put6 hbw (Nat.le_refl _) _ _ _ _ _ _⟩
    · have hda : DeadAt L k x ⟨s, cl, co, si, lo, hi⟩ false := .inr ⟨rfl, HT0.out, htf, m, s, HPM.out, HPO.out, hsz, by
        have h := HAV.out
        rw [if_neg (by omega)] at h
        rw [← h]⟩
      have HDA := Lib.hid hda
      clear hda
      have q0 := (hZ.facts).1
      have r0 := (hZ.free).1
      go_upto_region 15 with fail
      clear q0 r0
      generalize hw8 : World.setCell _ _ _ = w8
      have hset := But.set w7 g1 0 (.string s)
      have hZ8 : ABox w8 g1 s cl co si lo hi := by rw [← hw8]; exact hZ.set0
      have hY8 : ABox w8 w.heap.size ⟨#[]⟩ ⟨#[]⟩ ⟨#[]⟩ 0 0 0 := by rw [← hw8]; exact hset.blk hY (by omega)
      have hbw8 : Below w.heap.size w w8 := by rw [← hw8]; exact hbw.trans (hset.below (by omega) (by have := hbw.size; omega))
      clear hw8 hset hY hZ hbw
      have hY := hY8
      obtain ⟨q0, q1, q2, q3, q4, q5⟩ := hZ8.facts
      (obtain ⟨y0, y1, y2, y3, y4, y5⟩ := hY.facts; obtain ⟨z0, z1, z2, z3, z4, z5⟩ := hY.free)
      go_wp2_with fail
      obtain ⟨p0, p1, p2, p3, p4, p5⟩ := (hY.put s cl co si lo hi).facts
      clear y0 y1 y2 y3 y4 y5 z0 z1 z2 z3 z4 z5
      clear q0 q1 q2 q3 q4 q5
      exact bodyPost_ret (v := .tuple #[.agg #[.string s, .string cl, .string co, .int .i64 si, .int .i64 lo, .int .i64 hi], .bool false, .int .i64 0]) (by simp only [results, Tryz.results14]; simp [go_sem, p0, p1, p2, p3, p4, p5]) rfl ⟨⟨s, cl, co, si, lo, hi⟩, false, rfl, HDA.out, below_put6 hbw8 (Nat.le_refl _) _ _ _ _ _ _⟩
end Go.Proofs.YtmlhecjhjjlhfaaGreatDoor
