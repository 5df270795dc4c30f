/- The patterns of the rules before one that match with its tags: analyse.before. -/
import Derived.Test.YtmlhecjhjjlhfaaGreatDoorSZ39
import Derived.Test.YtmlhecjhjjlhfaaGreatDoorSZ34
import Derived.Test.YtmlhecjhjjlhfaaGreatDoorSZ36
import Derived.Test.YtmlhecjhjjlhfaaGreatDoorSZ31
import Derived.Test.YtmlhecjhjjlhfaaGreatDoorSZ1
import Derived.Laws.Rows
import Derived.Laws.Tables
import Derived.Laws.CopyOwn
import Derived.Test.YtmlhecjhjjlhfaaGreatDoorProg
import Derived.WalkKit
import Derived.WalkSpells
import Derived.WalkLawsBesides
import Derived.Below
import Derived.Deep.QuietTactic
import Derived.BigQuiet
import Derived.Lib.QuietBelow
import Derived.Lib.Strings
import Derived.Lib.Hide
import Derived.Deep.RegionWith
import Derived.Deep.RegionHeld3
import Derived.Lib.IndexBytes
import Derived.Test.YtmlhecjhjjlhfaaGreatDoorSZ4
import Derived.OwnWalk
import Derived.Maps.AppendAt
import Derived.Test.YtmlhecjhjjlhfaaGreatDoorSZ16
import Derived.Test.YtmlhecjhjjlhfaaGreatDoorSZ37
import Derived.Test.YtmlhecjhjjlhfaaGreatDoorSZ12
import Derived.Test.YtmlhecjhjjlhfaaGreatDoorSZ25
import Derived.Test.YtmlhecjhjjlhfaaGreatDoorSZ29
import Derived.Test.YtmlhecjhjjlhfaaGreatDoorSZ13
import Derived.Test.YtmlhecjhjjlhfaaGreatDoorSZ24
import Derived.Test.YtmlhecjhjjlhfaaGreatDoorSZ18
import Derived.Test.YtmlhecjhjjlhfaaGreatDoorSZ6
import Derived.Test.YtmlhecjhjjlhfaaGreatDoorSZ21
namespace Go.Proofs.YtmlhecjhjjlhfaaGreatDoor
open Go.RowKit Go.Sort
set_option linter.unusedVariables false
set_option linter.unusedSimpArgs false
set_option maxRecDepth 100000
def ruleP (x : RuleM) : RuleP := (x.r.pat, x.r.tags)
def befK (L : List RuleM) (ts : List ByteArray) (k : Nat) : List ByteArray := ((L.take k).filter fun q => subB q.r.tags ts).map (·.r.pat)
theorem befK_eq (L : List RuleM) (ts : List ByteArray) (i : Nat) : beforeR (L.map ruleP) i ts = befK L ts i := by
  unfold beforeR befK
  rw [← List.map_take, List.filter_map, List.map_map]
  rfl
theorem befK_succ {L : List RuleM} {ts : List ByteArray} {k : Nat} {x : RuleM} (h : L[k]? = some x) : befK L ts (k + 1) = if subB x.r.tags ts = true then befK L ts k ++ [x.r.pat] else befK L ts k := by
  unfold befK
  rw [List.take_add_one, h, List.filter_append, List.map_append]
  by_cases hs : subB x.r.tags ts = true
  · rw [if_pos hs]; simp [hs]
  · rw [if_neg hs]; simp [hs]
theorem befK_len (L : List RuleM) (ts : List ByteArray) (k : Nat) : (befK L ts k).length ≤ k := by
  unfold befK
  rw [List.length_map]
  exact Nat.le_trans (List.length_filter_le _ _) (by rw [List.length_take]; omega)
theorem sub_any (a b : List ByteArray) : (a.any fun t => !Lib.containsS b t) = !subB a b := by
  unfold subB
  rw [List.all_eq_not_any_not]; simp
structure LiS (g : Nat) (A : Option Addr) (n c i : Nat) (W : World) : Prop where
  l : Box1 W g 22 #[.slice A n c]
  i : Box1 W (g + 1) 3 #[.int .i64 i]
theorem LiS.keep {g : Nat} {A : Option Addr} {n c i : Nat} {W W' : World} (h : LiS g A n c i W) (hb : Below W.heap.size W W') : LiS g A n c i W' := ⟨h.l.keep hb, h.i.keep hb⟩
theorem LiS.low {g B : Nat} {A : Option Addr} {n c i : Nat} {W W' : World} (h : LiS g A n c i W) (hb : Below B W W') (hB : g + 1 < B) : LiS g A n c i W' := ⟨(hb.block g (by omega)).trans h.l, (hb.block (g + 1) hB).trans h.i⟩
theorem bef1_any (t : ByteArray) (g : Nat) (A : Option Addr) (n c i : Nat) (L : List RuleM) (x : RuleM) (w : World) (hS : LiS g A n c i w) (hL : RulesRead w A n L) (hx : L[i]? = some x) (hn : n ≤ 1000) (ht : x.r.tags.length ≤ 1000) :
    Calls Tryz.prog 82 #[.string t, .pointer (some ⟨g, 0, none⟩), .pointer (some ⟨g + 1, 0, none⟩)] w (Ret w (.bool (!Lib.containsS x.r.tags t))) := by
  obtain ⟨hr, b, o, rfl, hcell⟩ := hL.at_ hx
  have hlt : i < n := by have := (List.getElem?_eq_some_iff.1 hx).1; have := hL.len; omega
  have cK := fun W (hb : Below w.heap.size w W) => contains_any x.T x.r.tags.length x.ct x.r.tags t W (hr.tags.keep hb) (by omega)
  have c0 : w.cell? ⟨g, 0, none⟩ = some (.slice (some ⟨b, o, none⟩) n c) := hS.l.cell rfl
  have c1 : w.cell? ⟨g + 1, 0, none⟩ = some (.int .i64 i) := hS.i.cell rfl
  have c2 : w.cell? ⟨b, o + i * 18 + 2, none⟩ = some (.slice x.T x.r.tags.length x.ct) := hcell 2 _ rfl
  generalize Lib.containsS x.r.tags t = v at *
  have HK := Lib.hid cK
  clear cK hcell hr hS hL hx
  have hi0 : (0 : Int) ≤ (i : Int) := by omega
  have hi1 : (i : Int) < (n : Int) := by omega
  go_enter Tryz.func82, Tryz.ntmps82
  go_wp2_with (go_at_call 73; refine (HK.out _ (Below.refl _ _)).mono ?_; rintro e w2 ⟨rfl, hb2⟩)
  go_ret
  exact ⟨rfl, hb2⟩
end Go.Proofs.YtmlhecjhjjlhfaaGreatDoor
namespace Go.Proofs.YtmlhecjhjjlhfaaGreatDoor
open Go.RowKit Go.Sort
set_option linter.unusedVariables false
set_option linter.unusedSimpArgs false
set_option maxRecDepth 100000
def BefPost (L : List RuleM) (x : RuleM) (i : Nat) (w : World) (e : Ending) (w' : World) : Prop :=
  Below w.heap.size w w' ∧ (((tagsR x.r.tags).2 ≠ 0 ∧ e = .returned (.tuple #[.slice none 0 0, .bool false])) ∨ ((tagsR x.r.tags).2 = 0 ∧ ∃ B d, e = .returned (.tuple #[.slice B (befK L x.r.tags i).length d, .bool true]) ∧ Reads w' 1 B (befK L x.r.tags i).length ((befK L x.r.tags i).map .string)))
theorem infStrW : (Tryz.prog.info? 9).map (fun i => (i.zero, i.size, i.bytes)) = some (some (.string ⟨#[]⟩), 1, 16) := by kernel_rfl
set_option maxHeartbeats 8000000 in
theorem befor_any (A : Option Addr) (n c i : Nat) (L : List RuleM) (x : RuleM) (w : World) (hL : RulesRead w A n L) (hx : L[i]? = some x) (hn : n ≤ 1000) (hcap : n ≤ c) (hf : ∀ y ∈ L, RuleFits y.r) :
    Calls Tryz.prog 37 #[.slice A n c, .int .i64 (i : Int)] w (BefPost L x i w) := by
  obtain ⟨hr, b, o, rfl, hcell⟩ := hL.at_ hx
  have hlen := hL.len
  have hlt : i < n := by have := (List.getElem?_eq_some_iff.1 hx).1; omega
  have hxm := List.mem_of_getElem? hx
  have hbox : LiS w.heap.size (some ⟨b, o, none⟩) n c i ((w.alloc (.cells #[.slice (some ⟨b, o, none⟩) n c] 22)).alloc (.cells #[.int .i64 (i : Int)] 3)) := ⟨heap_alloc2_old w _ _, heap_alloc2_new w _ _⟩
  have cT := fun (W : World) (hb : Below w.heap.size w W) => tags_any x.T x.r.tags.length x.ct x.r.tags W (hr.tags.keep hb) (by have := (hf x hxm).nt; omega) (fun p hp => by have := (hf x hxm).t p hp; omega)
  have cF := fun (y : RuleM) (hy : y ∈ L) (W : World) (hb : Below w.heap.size w W) (hS : LiS w.heap.size (some ⟨b, o, none⟩) n c i W) => containsFuncS2_any 82 (enters_of Tryz.func82 (by kernel_rfl) rfl) (.pointer (some ⟨w.heap.size, 0, none⟩)) (.pointer (some ⟨w.heap.size + 1, 0, none⟩)) (fun t => !Lib.containsS x.r.tags t) y.T y.r.tags.length y.ct y.r.tags W (fun t _ W' hb' => bef1_any t w.heap.size (some ⟨b, o, none⟩) n c i L x W' (hS.keep hb') (hL.keep (bstep hb hb')) hx hn (by have := (hf x hxm).nt; omega)) ((hL.each y hy).tags.keep hb) (by have := (hf y hy).nt; omega)
  have hcT : w.cell? ⟨b, o + i * 18 + 2, none⟩ = some (.slice x.T x.r.tags.length x.ct) := hcell 2 _ rfl
  obtain ⟨i0, hi0, hz0, hz1, hz2⟩ := info_parts infStrW
  have HI := Lib.hid (And.intro hi0 (And.intro hz0 (And.intro hz1 hz2)))
  clear hi0 hz0 hz1 hz2
  obtain ⟨P, hP⟩ : ∃ P, P = BefPost L x i w := ⟨_, rfl⟩
  rw [← hP]
  have HP := Lib.hid hP
  unfold tagsV at cT
  obtain ⟨tv, htv⟩ : ∃ tv, tv = tagsR x.r.tags := ⟨_, rfl⟩
  rw [← htv] at cT
  obtain ⟨T, er⟩ := tv
  have HTV := Lib.hid htv
  have hmf : ∀ (fn : Fn) (first cap : Array Value) (w : World), (Instr.makeFunc fn first cap).run Tryz.prog w = .ok (.func fn first cap) w := fun _ _ _ _ => rfl
  have HT := Lib.hid cT; have HF := Lib.hid cF; have HL := Lib.hid hL; have HLN := Lib.hid hlen; have HBX := Lib.hid hbox
  clear hP cT cF hL hf hr hcell htv hbox hlen hxm
  have hi1 : (0 : Int) ≤ (i : Int) := by omega
  have hi2 : (i : Int) < (n : Int) := by omega
  have hi3 : (i : Int) ≤ (c : Int) := by omega
  by_cases h0 : er = 0
  rotate_left
  · have e1 : (er == 0) = false := beq_eq_false_iff_ne.2 h0
    have e2 : (er != 0) = true := bne_iff_ne.2 h0
    go_enter Tryz.func37, Tryz.ntmps37
    go_upto_region 1 with fail
    generalize hw0 : World.alloc _ _ = w0
    have hS : LiS w.heap.size (some ⟨b, o, none⟩) n c i w0 := by rw [← hw0]; exact HBX.out
    have hbw : Below w.heap.size w w0 := by rw [← hw0]; exact balloc (balloc (Below.refl _ _) _) _
    clear hw0
    have c0 : w0.cell? ⟨w.heap.size, 0, none⟩ = some (.slice (some ⟨b, o, none⟩) n c) := hS.l.cell rfl
    have c1 : w0.cell? ⟨w.heap.size + 1, 0, none⟩ = some (.int .i64 i) := hS.i.cell rfl
    have c2 := cell_keep hbw hcT
    go_wp2_with (go_at_call 81; refine (HT.out _ hbw).mono ?_; rintro e w2 ⟨rfl, hb2⟩)
    rw [HP.out]
    exact ⟨bstep hbw hb2, .inl ⟨by rw [← HTV.out]; exact h0, rfl⟩⟩
  · subst h0
    go_enter Tryz.func37, Tryz.ntmps37
    go_upto_region 1 with fail
    generalize hw0 : World.alloc _ _ = w0
    have hS : LiS w.heap.size (some ⟨b, o, none⟩) n c i w0 := by rw [← hw0]; exact HBX.out
    have hbw : Below w.heap.size w w0 := by rw [← hw0]; exact balloc (balloc (Below.refl _ _) _) _
    have hs0 : w.heap.size + 2 ≤ w0.heap.size := by rw [← hw0]; simp
    clear hw0
    have c0 : w0.cell? ⟨w.heap.size, 0, none⟩ = some (.slice (some ⟨b, o, none⟩) n c) := hS.l.cell rfl
    have c1 : w0.cell? ⟨w.heap.size + 1, 0, none⟩ = some (.int .i64 i) := hS.i.cell rfl
    have c2 := cell_keep hbw hcT
    go_upto_region 5 with (go_at_call 81; refine (HT.out _ hbw).mono ?_; rintro e w2 ⟨rfl, hb2⟩)
    have hS2 := hS.keep hb2
    have hbw2 := bstep hbw hb2
    have hs2 := hb2.size
    clear c0 c1 c2 hS
    have c0 : w2.cell? ⟨w.heap.size, 0, none⟩ = some (.slice (some ⟨b, o, none⟩) n c) := hS2.l.cell rfl
    have c1 : w2.cell? ⟨w.heap.size + 1, 0, none⟩ = some (.int .i64 i) := hS2.i.cell rfl
    have HS2 := Lib.hid hS2
    have hown0 : w2.ownsRow (w.heap.size + 2) 9 1 (.slice none 0 0) (befK L x.r.tags 0).length ((befK L x.r.tags 0).map .string) := World.ownsRow_nil _ _ _ _
    have HO0 := Lib.hid hown0
    clear hS2 hown0 hbw hb2
    go_wp2_with fail
    clear c0 c1
    go_loopw [8, 26] (fun ov iv wr => ∃ (k : Nat) (B : Option Addr) (d : Nat), k ≤ i ∧ iv = .int .i64 k ∧ ov = .slice B (befK L x.r.tags k).length d ∧ Hid (wr.ownsRow (w.heap.size + 2) 9 1 (.slice B (befK L x.r.tags k).length d) (befK L x.r.tags k).length ((befK L x.r.tags k).map .string)) ∧ Hid (LiS w.heap.size (some ⟨b, o, none⟩) n c i wr) ∧ Below w.heap.size w wr ∧ w.heap.size + 2 ≤ wr.heap.size) (fun _ iv _ => i - (intOf iv).toNat)
    case atStart => exact ⟨0, none, 0, by omega, rfl, rfl, HO0, HS2, hbw2, by omega⟩
    case round =>
      obtain ⟨k, B, d, hk, rfl, rfl, HO, HS, hbr, hsr⟩ := hrel
      clear HO0 HS2 hbw2
      by_cases hlk : k < i
      · obtain ⟨y, hy⟩ : ∃ y, L[k]? = some y := ⟨_, List.getElem?_eq_getElem (by have := HLN.out; omega)⟩
        obtain ⟨_, b', o', he, hcell⟩ := (HL.out.keep hbr).at_ hy
        injection he with he
        injection he with he1 he2 _
        subst he1; subst he2
        have hld := rule_load wr b (o + k * 18) y hcell
        have hym := List.mem_of_getElem? hy
        have hcf := HF.out y hym
        have hsucc := befK_succ (ts := x.r.tags) hy
        have hkl := befK_len L x.r.tags k
        rw [sub_any] at hcf
        have hc1 : y.cells.toArray[1]? = some (.string y.r.pat) := rfl
        have hc2 : y.cells.toArray[2]? = some (.slice y.T y.r.tags.length y.ct) := rfl
        have hone : y.cells.toArray.all (·.oneCell') = true := by rw [List.all_toArray]; rfl
        have hsz2 : y.cells.toArray.size = 18 := by rw [List.size_toArray, y.cells_len]
        have hi18 : (Tryz.prog.info? 38).map (·.size) = some y.cells.toArray.size := by rw [hsz2]; exact infRule
        have hsz : y.cells.toArray.size = (#[.string ⟨#[]⟩, .string ⟨#[]⟩, .slice none 0 0, .int .i64 0, .int .i64 0, .int .i64 0, .int .i64 0, .slice none 0 0, .int .i64 0, .int .i64 0, .string ⟨#[]⟩, .slice none 0 0, .slice none 0 0, .slice none 0 0, .int .i64 0, .bool false, .int .i64 0, .string ⟨#[]⟩] : Array Value).size := by rw [hsz2]; rfl
        unfold RuleM.val at hld
        generalize y.cells.toArray = X at *
        generalize subB y.r.tags x.r.tags = sb at *
        have HLD := Lib.hid hld; have HCF := Lib.hid hcf; have HC1 := Lib.hid hc1; have HC2 := Lib.hid hc2; have HON := Lib.hid hone; have HXS := Lib.hid hsz2; have HI18 := Lib.hid hi18; have HSZ := Lib.hid hsz; have HSU := Lib.hid hsucc
        clear hld hcf hc1 hc2 hone hsz2 hi18 hsz hcell hy hym hsucc
        have hk0 : (0 : Int) ≤ (k : Int) := by omega
        have hk1 : (k : Int) < (i : Int) := by omega
        have hsg : wr.heap.size < wr.heap.size + 1 := by omega
        cases sb
        · have hsu := HSU.out
          rw [if_neg (by decide)] at hsu
          go_wp2_with (first | (refine wpList_load_addr rfl 38 _ rfl ⟨b, o + k * 18, none⟩ (.agg X) rfl HLD.out ?_) | (refine wpList_store_row rfl 38 _ _ rfl wr.heap.size X rfl rfl _ #[.string ⟨#[]⟩, .string ⟨#[]⟩, .slice none 0 0, .int .i64 0, .int .i64 0, .int .i64 0, .int .i64 0, .slice none 0 0, .int .i64 0, .int .i64 0, .string ⟨#[]⟩, .slice none 0 0, .slice none 0 0, .slice none 0 0, .int .i64 0, .bool false, .int .i64 0, .string ⟨#[]⟩] ((heap_alloc_new wr _).trans rfl) HI18.out HSZ.out.symm HON.out ?_; generalize hw6 : World.setRow _ _ _ = w6; have B6 : Box1 w6 wr.heap.size 38 X := (by rw [← hw6]; exact setRow_heap _ _ _ _ _ _ (heap_alloc_new wr _)); have hb6 : Below wr.heap.size wr w6 := (by rw [← hw6]; exact below_setRow ((Below.refl _ _).alloc (Nat.le_refl _) _) (Nat.le_refl _) _); clear hw6; have x2 := B6.cell HC2.out; have x1 := B6.cell HC1.out) | (go_at_call 34; refine (HCF.out _ (bstep hbr hb6) (HS.out.keep hb6)).mono ?_; rintro e w7 ⟨rfl, hb7⟩))
          have hb67 := bstep hb6 hb7
          refine ⟨⟨k + 1, B, d, by omega, by go_num, by rw [hsu], by rw [hsu]; exact Lib.hid (ownsRow_keep HO.out hb67), Lib.hid (HS.out.keep hb67), bstep hbr hb67, by have := hb67.size; omega⟩, by simp [intOf]; omega⟩
        · have hsu := HSU.out
          rw [if_pos rfl] at hsu
          have hsl : (befK L x.r.tags (k + 1)).length = (befK L x.r.tags k).length + 1 := by rw [hsu]; simp
          go_wp2_with (first | (refine wpList_load_addr rfl 38 _ rfl ⟨b, o + k * 18, none⟩ (.agg X) rfl HLD.out ?_) | (refine wpList_store_row rfl 38 _ _ rfl wr.heap.size X rfl rfl _ #[.string ⟨#[]⟩, .string ⟨#[]⟩, .slice none 0 0, .int .i64 0, .int .i64 0, .int .i64 0, .int .i64 0, .slice none 0 0, .int .i64 0, .int .i64 0, .string ⟨#[]⟩, .slice none 0 0, .slice none 0 0, .slice none 0 0, .int .i64 0, .bool false, .int .i64 0, .string ⟨#[]⟩] ((heap_alloc_new wr _).trans rfl) HI18.out HSZ.out.symm HON.out ?_; generalize hw6 : World.setRow _ _ _ = w6; have B6 : Box1 w6 wr.heap.size 38 X := (by rw [← hw6]; exact setRow_heap _ _ _ _ _ _ (heap_alloc_new wr _)); have hb6 : Below wr.heap.size wr w6 := (by rw [← hw6]; exact below_setRow ((Below.refl _ _).alloc (Nat.le_refl _) _) (Nat.le_refl _) _); clear hw6; have x2 := B6.cell HC2.out; have x1 := B6.cell HC1.out) | (go_at_call 34; refine (HCF.out _ (bstep hbr hb6) (HS.out.keep hb6)).mono ?_; rintro e w7 ⟨rfl, hb7⟩; have hb67 := bstep hb6 hb7; have hs67 := hb67.size; have x1' := (B6.keep hb7).cell HC1.out) | (at_builtin; refine wpList_append_own _ rfl _ _ 32 rfl (w.heap.size + 2) 9 i0 (.string ⟨#[]⟩) 1 16 Tryz.underlying32 HI.out.1 HI.out.2.1 HI.out.2.2.1 HI.out.2.2.2 rfl (by decide) _ _ _ rfl ((ownsRow_keep HO.out hb67).alloc _) ⟨w7.heap.size, 0, none⟩ 1 1 [.string y.r.pat] rfl rfl (cell_one_new _ _ _) (by simp [Value.oneCell']) (by unfold maxLen; omega) (by omega) (by simp; omega) ?_; intro v' w8 hown' hgrow _; obtain ⟨g', cap', rfl⟩ := ownsRow_succ hown'))
          have hb8 : Below (w.heap.size + 2) w7 w8 := ((Below.refl _ _).alloc (by omega) _).grown hgrow (by simp; omega) (fun r e => ownsRow_block HO.out r e)
          have hs8 := hb8.size
          refine ⟨⟨k + 1, some ⟨g', 0, none⟩, cap', by omega, by go_num, by rw [hsl], by rw [hsl, hsu, List.map_append]; exact Lib.hid hown', Lib.hid ((HS.out.keep hb67).low hb8 (by omega)), (bstep hbr hb67).trans (hb8.mono (by omega)), by omega⟩, by simp [intOf]; omega⟩
      · obtain rfl : k = i := by omega
        have hre := Reads.of_own HO.out
        have HRE := Lib.hid hre
        clear hre
        go_wp2_with fail
        rw [HP.out]
        exact ⟨hbr, .inr ⟨by rw [← HTV.out], B, d, rfl, HRE.out⟩⟩
end Go.Proofs.YtmlhecjhjjlhfaaGreatDoor
namespace Go.Proofs.YtmlhecjhjjlhfaaGreatDoor
open Go.RowKit Go.Sort
set_option linter.unusedVariables false
set_option linter.unusedSimpArgs false
set_option maxRecDepth 100000
set_option maxHeartbeats 2000000 in
theorem writeByte_any (B b : Nat) (bs : List Value) (c : Int) (w : World) (h : Lib.IsBuilder 177 5 B b bs w) (hlen : bs.length + 1 ≤ 140737488355328) (hBw : B ≤ w.heap.size) :
    Calls Tryz.prog 134 #[.pointer (some ⟨b, 0, none⟩), .int .u8 c] w fun e w' => e = .returned .nilIface ∧ (Lib.BuilderAt 177 5 B b (.pointer (some ⟨b, 0, none⟩)) (bs ++ [.int .u8 c]) w' ∧ Below B w w') := by
  obtain ⟨i0, hi, hz0, hz1, hz2⟩ := info_parts infoByte
  go_enter Tryz.func134, Tryz.ntmps134
  go_wp2_with (go_at_call 184; refine (copyCheck_any B b bs _ h).mono ?_)
  rintro e w1 ⟨rfl, h1, hb1⟩
  obtain ⟨hB, v, hbk, hown, hne⟩ := h1
  have c0 : w1.cell? ⟨b, 0, none⟩ = some (.pointer (some ⟨b, 0, none⟩)) := by rw [Lib.cell_of_heap hbk]; rfl
  have c1 : w1.cell? ⟨b, 1, none⟩ = some v := by rw [Lib.cell_of_heap hbk]; rfl
  have hlt : b < w1.heap.size := by
    rcases Nat.lt_or_ge b w1.heap.size with h' | h'
    · exact h'
    · simp [Array.getElem?_eq_none h'] at hbk
  go_wp2_with (at_builtin; refine wpList_append_own _ rfl _ _ 175 rfl B 5 i0 (.int .u8 0) 1 1 Tryz.underlying175 hi hz0 hz1 hz2 rfl (by decide) _ _ _ rfl (hown.alloc _) ⟨w1.heap.size, 0, none⟩ 1 1 [.int .u8 c] rfl rfl (cell_one_new _ _ _) (by simp [Value.oneCell']) (by unfold maxLen; omega) (by omega) (by have := hb1.size; simp; omega) ?_)
  intro v' w2 hown' hgrow _
  have hbk1 : (w1.alloc (.cells #[.int .u8 c] 5)).heap[b]? = some (.cells #[.pointer (some ⟨b, 0, none⟩), v] 177 (0, 0)) := (heap_alloc_old w1 _ hlt).trans hbk
  have hb2 : w2.heap[b]? = some (.cells #[.pointer (some ⟨b, 0, none⟩), v] 177 (0, 0)) := by
    rw [hgrow.block b (by simp; omega) (fun e => hne e.symm)]
    exact hbk1
  have d0 : w2.cell? ⟨b, 0, none⟩ = some (.pointer (some ⟨b, 0, none⟩)) := by rw [Lib.cell_of_heap hb2]; rfl
  have d1 : w2.cell? ⟨b, 1, none⟩ = some v := by rw [Lib.cell_of_heap hb2]; rfl
  have f1 : w2.frozen? ⟨b, 1, none⟩ = false := Lib.frozen_of_heap hb2 1
  obtain ⟨ao, n', cap, rfl⟩ : ∃ ao n' cap, v' = .slice ao n' cap := by
    rcases hown'.2 with ⟨hv, _⟩ | ⟨g, cap, cur, hv, _⟩
    · exact ⟨_, _, _, hv⟩
    · exact ⟨_, _, _, hv⟩
  go_wp2
  go_ret
  refine ⟨rfl, ?_, ?_⟩
  · exact Lib.BuilderAt.put (T := 177) (e := 5) hB hb2 (bs' := bs ++ [.int .u8 c]) (by simpa using hown') (by decide)
  · exact ((hb1.alloc (by have := hb1.size; omega) _).grown hgrow (by have := hb1.size; simp; omega) (fun k hk => (hown.lt k hk).1)).setCell (p := ⟨b, 1, none⟩) hB _
end Go.Proofs.YtmlhecjhjjlhfaaGreatDoor
namespace Go.Proofs.YtmlhecjhjjlhfaaGreatDoor
open Go.RowKit Go.Sort
set_option linter.unusedVariables false
set_option linter.unusedSimpArgs false
set_option maxRecDepth 100000
theorem escB_len (b : UInt8) : (escB b).length ≤ 3 := by
  unfold escB
  split
  · decide
  · split
    · decide
    · split <;> simp
theorem escL_len : ∀ s : List UInt8, (escL s).length ≤ 3 * s.length
  | [] => by simp [escL]
  | b :: s => by
    have h1 := escB_len b
    have h2 := escL_len s
    unfold escL at h2 ⊢
    rw [List.flatMap_cons, List.length_append, List.length_cons]
    omega
theorem escL_succ (s : List UInt8) (k : Nat) (b : UInt8) (h : s[k]? = some b) : escL (s.take (k + 1)) = escL (s.take k) ++ escB b := by
  rw [List.take_add_one, h]
  unfold escL
  rw [List.flatMap_append]
  simp
theorem escB_of (b : UInt8) : escB b = if (b.toNat : Int) == 37 then [37, 50, 53] else if (b.toNat : Int) == 38 then [37, 50, 54] else if (b.toNat : Int) == 61 then [37, 51, 100] else [b] := by
  have h : ∀ c : UInt8, (b = c) = (((b.toNat : Int) == (c.toNat : Int)) = true) := fun c => by
    rw [beq_iff_eq]
    apply propext
    constructor
    · rintro rfl; rfl
    · intro h; exact UInt8.toNat_inj.1 (by omega)
  unfold escB
  simp only [h]
  rfl
set_option maxHeartbeats 4000000 in
theorem escaped_any (s : ByteArray) (w : World) (hs : s.size ≤ 100000) : Calls Tryz.prog 74 #[.string s] w (Ret w (.string (toB (escL s.data.toList)))) := by
  have hB0 := Lib.fresh_isBuilder 177 5 w
  go_enter Tryz.func74, Tryz.ntmps74
  go_wp2_with fail
  go_loopw [7] (fun i wr => ∃ k : Nat, k ≤ s.size ∧ i = .int .i64 k ∧ Lib.IsBuilder 177 5 w.heap.size w.heap.size (Lib.byteCells (escL (s.data.toList.take k))) wr ∧ Below w.heap.size w wr) (fun i _ => s.size - (intOf i).toNat)
  case atStart => exact ⟨0, Nat.zero_le _, rfl, hB0, belB⟩
  case round =>
    obtain ⟨k, hk, rfl, hB, hb⟩ := hrel
    clear hB0
    by_cases hlt : k < s.size
    · have hl : k < s.data.toList.length := by rw [← Lib.size_eq]; exact hlt
      have hsk : s.data.toList[k]? = some s[k] := by rw [List.getElem?_eq_getElem hl]; simp; rfl
      have hsu := escL_succ s.data.toList k s[k] hsk
      have hll := escL_len (s.data.toList.take k)
      have hll2 : (escL (s.data.toList.take k)).length ≤ 3 * k := by rw [List.length_take] at hll; omega
      have HSU := Lib.hid hsu; have HLL := Lib.hid hll2
      clear hsk hsu hll hll2
      go_wp2_with (first | (go_at_call 130; refine (writeString_any w.heap.size w.heap.size _ _ _ hB (by rw [Lib.byteCells_length]; have := HLL.out; simp only [Lib.size_eq, List.length_cons, List.length_nil]; omega) hb.size).mono ?_; rintro e w2 ⟨rfl, hB2, hb2⟩) | (go_at_call 134; refine (writeByte_any w.heap.size w.heap.size _ _ _ hB (by rw [Lib.byteCells_length]; have := HLL.out; omega) hb.size).mono ?_; rintro e w2 ⟨rfl, hB2, hb2⟩))
      all_goals
        refine ⟨⟨k + 1, by omega, by go_num, ?_, hb.trans hb2⟩, by simp [intOf]; omega⟩
        rw [HSU.out, byteCells_app, escB_of]
        first
          | (rw [if_pos (by assumption)]; exact .inr hB2)
          | (rw [if_neg (by simp [*]), if_pos (by assumption)]; exact .inr hB2)
          | (rw [if_neg (by simp [*]), if_neg (by simp [*]), if_pos (by assumption)]; exact .inr hB2)
          | (rw [if_neg (by simp [*]), if_neg (by simp [*]), if_neg (by simp [*])]; exact .inr hB2)
    · obtain rfl : k = s.size := by omega
      rw [List.take_of_length_le (by rw [Lib.size_eq]; omega)] at hB
      go_wp2_with fail
      refine (Tryz.Builder_String_any w.heap.size w.heap.size (escL s.data.toList) _ hB hb.size).mono ?_
      rintro e w2 ⟨rfl, hb2⟩
      go_wp2_with fail
      go_ret
      exact ⟨rfl, hb.trans hb2⟩
end Go.Proofs.YtmlhecjhjjlhfaaGreatDoor
namespace Go.Proofs.YtmlhecjhjjlhfaaGreatDoor
open Go.RowKit Go.Sort
set_option linter.unusedVariables false
set_option linter.unusedSimpArgs false
set_option maxRecDepth 100000
theorem pairs_all {a b : List VaryV} {S : List (List Hdr)} (h : ∀ (i k : Nat) (g q : List Hdr), i < k → S[i]? = some g → S[k]? = some q → sameV a g q = true → sameV b g q = true) : ∀ g ∈ S, ∀ q ∈ S, sameV a g q = true → sameV b g q = true := by
  intro g hg q hq hs
  obtain ⟨i, hi⟩ := List.mem_iff_getElem?.1 hg
  obtain ⟨k, hk⟩ := List.mem_iff_getElem?.1 hq
  rcases Nat.lt_trichotomy i k with h1 | h1 | h1
  · exact h i k g q h1 hi hk hs
  · subst h1
    rw [hi] at hk
    injection hk with hk
    subst hk
    exact same_refl b g
  · rw [same_comm] at hs ⊢
    exact h k i q g h1 hk hi hs
theorem check_right : ∀ (l e : List VaryM), checkVF l e = 0 → ∀ k x, l[k]? = some x → rightV x (e ++ l.take k) = 0
  | [], _, _, k, x, hx => by simp at hx
  | y :: l, e, h, k, x, hx => by
    rw [checkVF] at h
    by_cases h0 : rightV y e = 0
    · rw [if_pos h0] at h
      cases k with
      | zero =>
        simp only [List.getElem?_cons_zero, Option.some.injEq] at hx
        subst hx
        simpa using h0
      | succ k =>
        have := check_right l (e ++ [y]) h k x (by simpa using hx)
        simpa using this
    · rw [if_neg h0] at h
      exact absurd h h0
theorem right_name {x : VaryM} {e : List VaryM} (h : rightV x e = 0) : wordV nameN x.v.header = true ∧ ofV e x.v.header < 0 := by
  unfold rightV at h
  by_cases h1 : wordV nameN x.v.header = false
  · rw [if_pos h1] at h; exact absurd h (by decide)
  · rw [if_neg h1] at h
    refine ⟨by simpa using h1, ?_⟩
    by_cases h2 : 0 ≤ ofV e x.v.header
    · rw [if_pos h2] at h; exact absurd h (by decide)
    · omega
theorem check_flat {L : List VaryM} (h : checkV L = 0) : checkVF L [] = 0 := by
  unfold checkV at h
  split at h
  · exact absurd h (by decide)
  · split at h
    · exact absurd h (by decide)
    · exact h
theorem check_once {L : List VaryM} (h : checkV L = 0) {i k : Nat} {x y : VaryM} (hi : L[i]? = some x) (hk : L[k]? = some y) (he : x.v.header = y.v.header) : i = k := by
  have key : ∀ (i k : Nat) (x y : VaryM), i < k → L[i]? = some x → L[k]? = some y → x.v.header = y.v.header → False := by
    intro i k x y hik hi hk he
    have h1 := (right_name (check_right L [] (check_flat h) k y hk)).2
    rw [List.nil_append] at h1
    have hx : x ∈ L.take k := by
      refine List.mem_iff_getElem?.2 ⟨i, ?_⟩
      rw [List.getElem?_take, if_pos hik, hi]
    have h2 : decide (0 ≤ ofV (L.take k) y.v.header) = true := by
      unfold ofV
      rw [idxA_any, List.any_eq_true]
      exact ⟨x, hx, by simp [he]⟩
    rw [decide_eq_true_eq] at h2
    omega
  rcases Nat.lt_trichotomy i k with h1 | h1 | h1
  · exact (key i k x y h1 hi hk he).elim
  · exact h1
  · exact (key k i y x h1 hk hi he.symm).elim
theorem name_amp {s : ByteArray} (h : wordV nameN s = true) : 38 ∉ s.data.toList := by
  intro hm
  unfold wordV at h
  rw [Bool.and_eq_true] at h
  have h2 := List.all_eq_true.1 h.1 38 hm
  revert h2
  decide
theorem check_hdr {L : List VaryM} (h : checkV L = 0) : HdrOk (L.map (·.v)) := by
  intro v hv
  obtain ⟨x, hx, rfl⟩ := List.mem_map.1 hv
  obtain ⟨k, hk⟩ := List.mem_iff_getElem?.1 hx
  exact name_amp (right_name (check_right L [] (check_flat h) k x hk)).1
end Go.Proofs.YtmlhecjhjjlhfaaGreatDoor
