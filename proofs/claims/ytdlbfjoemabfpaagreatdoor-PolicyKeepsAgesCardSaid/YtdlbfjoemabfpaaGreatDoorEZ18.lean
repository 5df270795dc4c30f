/- What the specification's path returns: the parts that 'resolve' leaves. -/
import Derived.Test.YtdlbfjoemabfpaaGreatDoorEZ16
import Derived.Test.YtdlbfjoemabfpaaGreatDoorEZ3
import Derived.Test.YtdlbfjoemabfpaaGreatDoorProg
import Derived.WalkKit
import Derived.WalkSpells
import Derived.WalkLawsBesides
import Derived.Below
import Derived.Deep.QuietTactic
import Derived.BigQuiet
import Derived.Lib.QuietBelow
import Derived.Lib.Strings
import Derived.Lib.Hide
import Derived.Deep.RegionWith
import Derived.Deep.RegionHeld3
import Derived.Lib.IndexBytes
import Derived.Test.YtdlbfjoemabfpaaGreatDoorEZ17
import Derived.Test.YtdlbfjoemabfpaaGreatDoorEZ5
namespace Go.Proofs.YtdlbfjoemabfpaaGreatDoor
open Go.RowKit Go.Sort
set_option linter.unusedVariables false
set_option linter.unusedSimpArgs false
set_option maxRecDepth 100000
def RPathPost (r : Option (List ByteArray)) (w : World) (e : Ending) (w' : World) : Prop :=
  Below w.heap.size w w' ∧ match r with
    | none => e = .returned (.tuple #[.slice none 0 0, .bool false])
    | some out => ∃ A c, e = .returned (.tuple #[.slice A out.length c, .bool true]) ∧ Reads w' 1 A out.length (out.map .string) ∧ (∀ a, A = some a → w.heap.size ≤ a.block)
set_option maxHeartbeats 4000000 in
theorem rPath_any (A : Option Addr) (n c : Nat) (l : List ByteArray) (w : World) (hR : Reads w 1 A n (l.map .string)) (hn : n ≤ 1000000) (hsz : ∀ p ∈ l, p.size ≤ 4294967281) : Calls Tryz.prog 156 #[.slice A n c] w (RPathPost (resB [] l) w) := by
  have hl : l.length = n := by have := hR.1; simpa using this
  obtain ⟨i0, hi0, hz0, hz1, hz2⟩ := info_parts infoStr
  have HI : Hid ((Tryz.prog.info? 9 = some i0) ∧ i0.zero = some (.string ⟨#[]⟩) ∧ i0.size = 1 ∧ i0.bytes = 16) := Lib.hid ⟨hi0, hz0, hz1, hz2⟩
  have HL := Lib.hid hl
  have HR := Lib.hid hR
  have HZ := Lib.hid hsz
  generalize hV : RPathPost (resB [] l) w = V
  have HV := Lib.hid hV
  clear hi0 hz0 hz1 hz2 hl hR hsz hV
  go_enter Tryz.func156, Tryz.ntmps156
  go_wp2
  go_loopw [4, 5] (fun va vi wr => ∃ (k m : Nat) (acc : List ByteArray) (A' : Option Addr) (c' : Nat), (vi = .int .i64 k ∧ va = .slice A' m c' ∧ k ≤ n ∧ m ≤ k) ∧ Hid (resB [] l = resB acc (l.drop k) ∧ acc.length = m) ∧ wr.ownsRow w.heap.size 9 1 (.slice A' m c') m (acc.map .string) ∧ Below w.heap.size w wr) (fun _ i _ => n - (intOf i).toNat)
  case atStart => exact ⟨0, 0, [], none, 0, ⟨rfl, rfl, Nat.zero_le _, Nat.le_refl _⟩, Lib.hid ⟨rfl, rfl⟩, World.ownsRow_nil _ _ _ _, Below.refl _ _⟩
  case round =>
    obtain ⟨k, m, acc, A', c', ⟨rfl, rfl, hk, hm⟩, HK, hown, hbr⟩ := hrel
    have hbs := hbr.size
    by_cases hlt : k < n
    · obtain ⟨x, hx⟩ : ∃ x, l[k]? = some x := ⟨_, List.getElem?_eq_getElem (by have := HL.out; omega)⟩
      obtain ⟨b, o, rfl, hcell⟩ := HR.out.2 (by omega)
      have hc0 : w.cell? ⟨b, o + k, none⟩ = some (.string x) := hcell k _ (by simp [hx])
      have hc1 : wr.cell? ⟨b, o + k, none⟩ = some (.string x) := cell_keep hbr hc0
      have hk0 : (0 : Int) ≤ (k : Int) := by omega
      have hk1 : (k : Int) < (n : Int) := by omega
      have hd : l.drop k = x :: l.drop (k + 1) := by
        obtain ⟨hl2, rfl⟩ := List.getElem?_eq_some_iff.1 hx
        exact List.drop_eq_getElem_cons hl2
      have hr1 := HK.out.1
      rw [hd, resB] at hr1
      have hml := HK.out.2
      have hxs : x.size ≤ 4294967281 := HZ.out x (List.mem_of_getElem? hx)
      have cW := fun W => rWord_any x W hxs
      clear hcell hx hd HK
      cases e1 : (x.toList == [46])
      rotate_left
      · have hr2 := hr1
        simp only [resStep, e1, if_true, Option.bind_some] at hr2
        have HK2 := Lib.hid (show resB [] l = resB acc (l.drop (k + 1)) ∧ acc.length = m from ⟨hr2, hml⟩)
        clear hr1 hr2 hml cW
        go_wp2
        exact ⟨⟨k + 1, m, acc, A', c', ⟨by go_num, rfl, by omega, by omega⟩, HK2, hown, hbr⟩, by simp [intOf]; omega⟩
      have e1' : ¬ x.toList = [46] := by simpa using e1
      cases e2 : (x.toList == [46, 46])
      rotate_left
      · by_cases hm0 : m = 0
        · subst hm0
          obtain rfl : acc = [] := List.eq_nil_of_length_eq_zero hml
          have hwf : isWordB x = false := by simp [isWordB, beq_iff_eq.1 e2]
          have hn : resB [] l = none := by rw [hr1]; simp [resStep, e1, e2, hwf]
          have HN := Lib.hid hn
          clear hr1 hml cW hwf hn
          go_wp2
          rw [← HV.out, HN.out]
          exact ⟨belB, rfl⟩
        · obtain ⟨init, last, hacc⟩ : ∃ init last, acc = init ++ [last] := by
            rcases List.eq_nil_or_concat acc with rfl | ⟨init, last, rfl⟩
            · exact absurd hml.symm hm0
            · exact ⟨init, last, by rw [List.concat_eq_append]⟩
          subst hacc
          obtain ⟨m', rfl⟩ : ∃ m', m = m' + 1 := ⟨m - 1, by omega⟩
          have hil : init.length = m' := by simpa using hml
          have hr2 := hr1
          rw [show resStep (init ++ [last]) x = some init by simp [resStep, e1, e2], Option.bind_some] at hr2
          have HK2 := Lib.hid (show resB [] l = resB init (l.drop (k + 1)) ∧ init.length = m' from ⟨hr2, hil⟩)
          clear hr1 hr2 hml cW
          obtain ⟨g, hA⟩ : ∃ g, A' = some ⟨g, 0, none⟩ := by
            obtain ⟨g, cap, hv⟩ := ownsRow_succ hown
            injection hv with hv
            exact ⟨g, hv⟩
          subst hA
          have hpop : Hid (∀ j u, (init.map Value.string)[j]? = some u → wr.cell? ⟨g, j, none⟩ = some u) := Lib.hid fun j u hu => by
            have hjl : j < (init.map Value.string).length := (List.getElem?_eq_some_iff.1 hu).1
            rw [hown.cellAt j (by simp at hjl; omega), List.map_append, List.getElem?_append_left hjl]
            exact hu
          have hcap := ownsRow_cap hown
          have hgb := ownsRow_block hown g rfl
          have hgl : g < wr.heap.size := (hown.lt g rfl).2
          clear hown
          have hpos : ((m' : Int) + 1 == 0) = false := beq_eq_false_iff_ne.2 (by omega)
          have q1 : (0 : Int) ≤ (m' : Int) := by omega
          have hone : ∀ u ∈ init.map Value.string, u.oneCell' = true := by
            intro u hu; obtain ⟨_, _, rfl⟩ := List.mem_map.1 hu; rfl
          have hlen : (init.map Value.string).length = m' * 1 := by simp [hil]
          have hadd : ∀ j, (⟨g, 0, none⟩ : Addr).add j = ⟨g, j, none⟩ := fun j => by unfold Addr.add; split <;> simp_all
          have hnew : ∀ j u, (init.map Value.string)[j]? = some u → (wr.alloc (.cells #[] 9)).cell? ((⟨g, 0, none⟩ : Addr).add j) = some u := fun j u hu => by
            rw [hadd, World.cell?_of_block (w := wr) (Below.heap_alloc wr _ g hgl)]
            exact hpop.out j u hu
          have HN2 := Lib.hid hnew; have HO := Lib.hid hone; have HLN := Lib.hid hlen
          clear hnew hone hlen hadd
          go_wp2_with (at_builtin; refine wpList_append_own _ rfl _ _ 27 rfl w.heap.size 9 i0 (.string ⟨#[]⟩) 1 16 Tryz.underlying27 HI.out.1 HI.out.2.1 HI.out.2.2.1 HI.out.2.2.2 rfl (by decide) _ _ _ rfl (World.ownsRow_made (base := w.heap.size) (e := 9) (size := 1) wr #[] 0 hbs (Nat.zero_le _) rfl) ⟨g, 0, none⟩ m' c' (init.map .string) rfl HLN.out HN2.out HO.out (by unfold maxLen; omega) (by omega) (by simp; omega) ?_; intro v' w3 hown3 hgrow3 _)
          obtain ⟨A3, c3, rfl⟩ : ∃ A3 c3, v' = .slice A3 m' c3 := by
            rcases hown3.2 with ⟨h1, h2⟩ | ⟨g3, cap3, cur3, h1, _⟩
            · exact ⟨none, 0, by rw [h1]; congr 1; omega⟩
            · exact ⟨_, _, by rw [h1]; congr 1; omega⟩
          exact ⟨⟨k + 1, m', init, A3, c3, ⟨by go_num, rfl, by omega, by omega⟩, HK2, by simpa using hown3, (hbr.alloc hbs _).grown hgrow3 (by simp; omega) (fun r e => by injection e with e; simp at e; omega)⟩, by simp [intOf]; omega⟩
      have e2' : ¬ x.toList = [46, 46] := by simpa using e2
      cases hw : isWordB x
      · have hn : resB [] l = none := by rw [hr1]; simp [resStep, e1, e2, hw]
        rw [hw] at cW
        have HW := Lib.hid cW
        have HN := Lib.hid hn
        clear hr1 hml cW hw hn
        go_wp2_with (go_at_call 90; refine (HW.out _).mono ?_; rintro e w1 ⟨rfl, hb1⟩)
        rw [← HV.out, HN.out]
        exact ⟨belB, rfl⟩
      · have hr2 := hr1
        rw [show resStep acc x = some (acc ++ [x]) by simp [resStep, e1, e2, hw], Option.bind_some] at hr2
        have HK2 := Lib.hid (show resB [] l = resB (acc ++ [x]) (l.drop (k + 1)) ∧ (acc ++ [x]).length = m + 1 from ⟨hr2, by simp [hml]⟩)
        rw [hw] at cW
        have HW := Lib.hid cW
        clear hr1 hr2 hml cW hw
        go_wp2_with (first | (go_at_call 90; refine (HW.out _).mono ?_; rintro e w1 ⟨rfl, hb1⟩; have hown1 := ownsRow_keep hown hb1; have hbs1 := hb1.size; have hbw1 := bstep hbr hb1; have hc2 := cell_keep hb1 hc1; clear hown) | (at_builtin; refine wpList_append_own _ rfl _ _ 27 rfl w.heap.size 9 i0 (.string ⟨#[]⟩) 1 16 Tryz.underlying27 HI.out.1 HI.out.2.1 HI.out.2.2.1 HI.out.2.2.2 rfl (by decide) _ _ _ rfl (hown1.alloc _) ⟨w1.heap.size, 0, none⟩ 1 1 [.string x] rfl rfl (cell_one_new _ _ _) (by simp [Value.oneCell']) (by unfold maxLen; omega) (by omega) (by simp; omega) ?_; intro v' w3 hown3 hgrow3 _; obtain ⟨g1, cap1, rfl⟩ := ownsRow_succ hown3; have hb3 : Below w.heap.size w w3 := (hbw1.alloc hbw1.size _).grown hgrow3 (by simp; omega) (fun r e => ownsRow_block hown1 r e)))
        exact ⟨⟨k + 1, m + 1, acc ++ [x], some ⟨g1, 0, none⟩, cap1, ⟨by go_num, rfl, by omega, by omega⟩, HK2, by rw [List.map_append]; exact hown3, hb3⟩, by simp [intOf]; omega⟩
    · obtain rfl : k = n := by omega
      have hfin : resB [] l = some acc := by
        rw [HK.out.1, List.drop_eq_nil_of_le (by have := HL.out; omega), resB]
      have HF := Lib.hid hfin
      have hml := HK.out.2
      clear hfin HK
      go_wp2
      rw [← HV.out, HF.out]
      exact ⟨belB, A', c', by rw [hml]; rfl, by rw [hml]; exact Reads.of_own hown, fun a ha => by have := ownsRow_block hown a.block (by rw [ha]; rfl); omega⟩
end Go.Proofs.YtdlbfjoemabfpaaGreatDoor
namespace Go.Proofs.YtdlbfjoemabfpaaGreatDoor
open Go.RowKit Go.Sort
set_option linter.unusedVariables false
set_option linter.unusedSimpArgs false
set_option maxRecDepth 100000
def PairBox (w : World) (g : Nat) (k v : ByteArray) : Prop := Blk w g 215 #[.string k, .string v] (0, 0)
theorem PairBox.facts {w : World} {g : Nat} {k v : ByteArray} (h : PairBox w g k v) : w.cell? ⟨g, 0, none⟩ = some (.string k) ∧ w.cell? ⟨g, 1, none⟩ = some (.string v) := ⟨Blk.cell h 0, Blk.cell h 1⟩
def OwnPost2 (ps : List BP) (w : World) (e : Ending) (w' : World) : Prop := ∃ A c, e = .returned (.slice A ps.length c) ∧ Reads w' 2 A ps.length (pairCells ps) ∧ (∀ a, A = some a → w.heap.size ≤ a.block) ∧ Below w.heap.size w w'
theorem pairCells_app (a b : List BP) : pairCells (a ++ b) = pairCells a ++ pairCells b := by simp [pairCells]
set_option maxHeartbeats 4000000 in
theorem rPut_any (A : Option Addr) (n c : Nat) (l : List BP) (k0 v0 : ByteArray) (w : World) (hR : Reads w 2 A n (pairCells l)) (hn : n ≤ 1000000) : Calls Tryz.prog 198 #[.slice A n c, .agg #[.string k0, .string v0]] w (OwnPost2 (putB l (k0, v0)) w) := by
  have hl : l.length = n := by have := hR.1; rw [pairCells_length] at this; omega
  obtain ⟨i0, hi0, hz0, hz1, hz2⟩ := info_parts infoPair
  have HI : Hid ((Tryz.prog.info? 215 = some i0) ∧ i0.zero = some (.agg #[.string ⟨#[]⟩, .string ⟨#[]⟩]) ∧ i0.size = 2 ∧ i0.bytes = 32) := Lib.hid ⟨hi0, hz0, hz1, hz2⟩
  have HL := Lib.hid hl
  have HR := Lib.hid hR
  clear hi0 hz0 hz1 hz2 hl hR
  go_enter Tryz.func198, Tryz.ntmps198
  go_wp2
  have hX0 : PairBox (w.alloc (.cells #[.string k0, .string v0] 215)) w.heap.size k0 v0 := World.alloc_heap_new _ _
  go_loopw [5, 6, 7] (fun va vp vi wr => ∃ (k m : Nat) (pl : Bool) (acc : List BP) (A' : Option Addr) (c' : Nat), (vi = .int .i64 k ∧ vp = .bool pl ∧ va = .slice A' m c' ∧ k ≤ n ∧ m ≤ 2 * k) ∧ Hid ((l.take k).foldl (putSt (k0, v0)) ([], false) = (acc, pl) ∧ acc.length = m) ∧ wr.ownsRow (w.heap.size + 1) 215 2 (.slice A' m c') m (pairCells acc) ∧ PairBox wr w.heap.size k0 v0 ∧ Below w.heap.size w wr ∧ w.heap.size + 1 ≤ wr.heap.size) (fun _ _ i _ => n - (intOf i).toNat)
  case atStart => exact ⟨0, 0, false, [], none, 0, ⟨rfl, rfl, rfl, Nat.zero_le _, Nat.le_refl _⟩, Lib.hid ⟨rfl, rfl⟩, World.ownsRow_nil _ _ _ _, hX0, balloc (Below.refl _ _) _, by simp⟩
  case round =>
    clear hX0
    obtain ⟨k, m, pl, acc, A', c', ⟨rfl, rfl, rfl, hk, hm⟩, HK, hown, hX, hbr, hzr⟩ := hrel
    have hbs := hbr.size
    obtain ⟨x0, x1⟩ := hX.facts
    by_cases hlt : k < n
    · obtain ⟨x, hx⟩ : ∃ x, l[k]? = some x := ⟨_, List.getElem?_eq_getElem (by have := HL.out; omega)⟩
      obtain ⟨b, o, rfl, hcell⟩ := HR.out.2 (by omega)
      obtain ⟨e1, e2⟩ := pairCells_at l k x hx
      have hc0 := hcell _ _ e1
      have hc0' := hcell _ _ e2
      have hst : (l.take (k + 1)).foldl (putSt (k0, v0)) ([], false) = putSt (k0, v0) (acc, pl) x := by rw [foldl_take _ _ hx, HK.out.1]
      obtain ⟨xk, xv⟩ := x
      dsimp only at hc0 hc0'
      have hc1 : wr.cell? ⟨b, o + k * 2, none⟩ = some (.string xk) := cell_keep hbr hc0
      have hc2 : wr.cell? ⟨b, o + k * 2 + 1, none⟩ = some (.string xv) := cell_keep hbr hc0'
      have hk0 : (0 : Int) ≤ (k : Int) := by omega
      have hk1 : (k : Int) < (n : Int) := by omega
      have hml := HK.out.2
      clear hcell hx e1 e2
      by_cases hfirst : pl = false ∧ leS k0 xk = true
      · obtain ⟨rfl, hle⟩ := hfirst
        have e1 : putA (k0, v0) (acc, false) (xk, xv) = (acc ++ [(k0, v0)], true) := by simp [putA, hle]
        have hle2 : (Op.bytesLess k0.toList xk.toList || k0.toList == xk.toList) = true := hle
        cases hne : (xk.toList != k0.toList)
        · have e2 : putSt (k0, v0) (acc, false) (xk, xv) = (acc ++ [(k0, v0)], true) := by simp only [putSt, hne, e1]; rfl
          have HK2 := Lib.hid (show (l.take (k + 1)).foldl (putSt (k0, v0)) ([], false) = (acc ++ [(k0, v0)], true) ∧ (acc ++ [(k0, v0)]).length = m + 1 from ⟨hst.trans e2, by simp [hml]⟩)
          have hq : (xk.toList == k0.toList) = true := by simpa [bne] using hne
          have hq2 : xk.toList = k0.toList := beq_iff_eq.1 hq
          clear e1 e2 hst hml HK hle
          go_wp2_with fail
          (have k1 := cell_regrown hc1; have k2 := cell_regrown hc2; have k3 := cell_regrown x0; refine wp_region_quiet_below (by kernel_rfl) (by kernel_rfl) ?_; (repeat (any_goals (first | go_big_quiet_step (fail) | quiet_step (fail)))); refine wpQuiet_nil ?_; intro _ hwq; obtain ⟨⟨dq, osq⟩, hwq⟩ := hwq; subst hwq; have hbq := below_regrown (wr) dq osq; generalize grow (redrawn (wr) dq) osq = wq at *; have hownq := ownsRow_keep hown hbq; have hXq : PairBox wq w.heap.size k0 v0 := Blk.keep hX hbq; have hcq1 := cell_keep hbq hc1; have hcq2 := cell_keep hbq hc2; have hbrq := bstep hbr hbq; have hzrq := Nat.le_trans hzr hbq.size; clear k1 k2 k3 hown hX hc1 hc2 hbr hzr hbs x0 x1 hbq; obtain ⟨x0, x1⟩ := hXq.facts; have hbs := hbrq.size; have hown := hownq; have hX := hXq; have hc1 := hcq1; have hc2 := hcq2; have hbr := hbrq; have hzr := hzrq; clear hownq hXq hcq1 hcq2 hbrq hzrq; obtain ⟨wr, rfl⟩ : ∃ x : World, x = wq := ⟨_, rfl⟩)
          go_wp2_with (at_builtin; refine wpList_append_own _ rfl _ _ 146 rfl (w.heap.size + 1) 215 i0 (.agg #[.string ⟨#[]⟩, .string ⟨#[]⟩]) 2 32 Tryz.underlying146 HI.out.1 HI.out.2.1 HI.out.2.2.1 HI.out.2.2.2 rfl (by decide) _ _ _ rfl (hown.alloc _) ⟨wr.heap.size, 0, none⟩ 1 1 [.string k0, .string v0] rfl rfl (World.news_of_block (cs := #[.string k0, .string v0]) (t := 215) (fr := (0, 0)) (World.alloc_heap_new wr _)) (by simp [Value.oneCell']) (by unfold maxLen; omega) (by omega) (by simp; omega) ?_; intro v' w3 hown1 hgrow1 _; obtain ⟨g1, cap1, rfl⟩ := ownsRow_succ hown1; have hb3 : Below w.heap.size w w3 := (hbr.alloc hbs _).grown hgrow1 (by simp; omega) (fun r e => by have := ownsRow_block hown r e; omega); have hbs3 := hb3.size; have hX3 : PairBox w3 w.heap.size k0 v0 := (hgrow1.block _ (by simp; omega) (fun e => by have := ownsRow_block hown _ e.symm; omega)).trans ((Below.heap_alloc wr _ _ (by omega)).trans hX); obtain ⟨y0, y1⟩ := hX3.facts; have hz3 : w.heap.size + 1 ≤ w3.heap.size := (by have := hgrow1.size; simp at this; omega); have hc3 : w3.cell? ⟨b, o + k * 2, none⟩ = some (.string xk) := cell_keep hb3 hc0; have hc3' : w3.cell? ⟨b, o + k * 2 + 1, none⟩ = some (.string xv) := cell_keep hb3 hc0'; clear hown)
          (have k1 := cell_regrown hc3; have k2 := cell_regrown hc3'; have k3 := cell_regrown y0; refine wp_region_quiet_below (by kernel_rfl) (by kernel_rfl) ?_; (repeat (any_goals (first | go_big_quiet_step (fail) | quiet_step (fail)))); refine wpQuiet_nil ?_; intro _ hwq; obtain ⟨⟨dq, osq⟩, hwq⟩ := hwq; subst hwq; have hbq := below_regrown (w3) dq osq; generalize grow (redrawn (w3) dq) osq = wq at *; have hownq := ownsRow_keep hown1 hbq; have hXq : PairBox wq w.heap.size k0 v0 := Blk.keep hX3 hbq; have hcq1 := cell_keep hbq hc3; have hcq2 := cell_keep hbq hc3'; have hbrq := bstep hb3 hbq; have hzrq := Nat.le_trans hz3 hbq.size; clear k1 k2 k3 hown1 hX3 hc3 hc3' hb3 hz3 hbs3 y0 y1 hbq hgrow1; obtain ⟨y0, y1⟩ := hXq.facts; have hbs3 := hbrq.size; have hown1 := hownq; have hX3 := hXq; have hc3 := hcq1; have hc3' := hcq2; have hb3 := hbrq; have hz3 := hzrq; clear hownq hXq hcq1 hcq2 hbrq hzrq; obtain ⟨w3, rfl⟩ : ∃ x : World, x = wq := ⟨_, rfl⟩)
          go_wp2
          exact ⟨⟨k + 1, m + 1, true, acc ++ [(k0, v0)], some ⟨g1, 0, none⟩, cap1, ⟨by go_num, rfl, rfl, by omega, by omega⟩, HK2, by rw [pairCells_app]; exact hown1, hX3, hb3, hz3⟩, by simp [intOf]; omega⟩
        · have e2 : putSt (k0, v0) (acc, false) (xk, xv) = (acc ++ [(k0, v0)] ++ [(xk, xv)], true) := by simp only [putSt, hne, e1]; rfl
          have HK2 := Lib.hid (show (l.take (k + 1)).foldl (putSt (k0, v0)) ([], false) = (acc ++ [(k0, v0)] ++ [(xk, xv)], true) ∧ (acc ++ [(k0, v0)] ++ [(xk, xv)]).length = m + 1 + 1 from ⟨hst.trans e2, by simp [hml]⟩)
          have hq : ¬ xk.toList = k0.toList := by simpa [bne] using hne
          have hq3 : (xk.toList == k0.toList) = false := by simpa using hq
          clear e1 e2 hst hml HK hle
          go_wp2_with fail
          (have k1 := cell_regrown hc1; have k2 := cell_regrown hc2; have k3 := cell_regrown x0; refine wp_region_quiet_below (by kernel_rfl) (by kernel_rfl) ?_; (repeat (any_goals (first | go_big_quiet_step (fail) | quiet_step (fail)))); refine wpQuiet_nil ?_; intro _ hwq; obtain ⟨⟨dq, osq⟩, hwq⟩ := hwq; subst hwq; have hbq := below_regrown (wr) dq osq; generalize grow (redrawn (wr) dq) osq = wq at *; have hownq := ownsRow_keep hown hbq; have hXq : PairBox wq w.heap.size k0 v0 := Blk.keep hX hbq; have hcq1 := cell_keep hbq hc1; have hcq2 := cell_keep hbq hc2; have hbrq := bstep hbr hbq; have hzrq := Nat.le_trans hzr hbq.size; clear k1 k2 k3 hown hX hc1 hc2 hbr hzr hbs x0 x1 hbq; obtain ⟨x0, x1⟩ := hXq.facts; have hbs := hbrq.size; have hown := hownq; have hX := hXq; have hc1 := hcq1; have hc2 := hcq2; have hbr := hbrq; have hzr := hzrq; clear hownq hXq hcq1 hcq2 hbrq hzrq; obtain ⟨wr, rfl⟩ : ∃ x : World, x = wq := ⟨_, rfl⟩)
          go_wp2_with (at_builtin; refine wpList_append_own _ rfl _ _ 146 rfl (w.heap.size + 1) 215 i0 (.agg #[.string ⟨#[]⟩, .string ⟨#[]⟩]) 2 32 Tryz.underlying146 HI.out.1 HI.out.2.1 HI.out.2.2.1 HI.out.2.2.2 rfl (by decide) _ _ _ rfl (hown.alloc _) ⟨wr.heap.size, 0, none⟩ 1 1 [.string k0, .string v0] rfl rfl (World.news_of_block (cs := #[.string k0, .string v0]) (t := 215) (fr := (0, 0)) (World.alloc_heap_new wr _)) (by simp [Value.oneCell']) (by unfold maxLen; omega) (by omega) (by simp; omega) ?_; intro v' w3 hown1 hgrow1 _; obtain ⟨g1, cap1, rfl⟩ := ownsRow_succ hown1; have hb3 : Below w.heap.size w w3 := (hbr.alloc hbs _).grown hgrow1 (by simp; omega) (fun r e => by have := ownsRow_block hown r e; omega); have hbs3 := hb3.size; have hX3 : PairBox w3 w.heap.size k0 v0 := (hgrow1.block _ (by simp; omega) (fun e => by have := ownsRow_block hown _ e.symm; omega)).trans ((Below.heap_alloc wr _ _ (by omega)).trans hX); obtain ⟨y0, y1⟩ := hX3.facts; have hz3 : w.heap.size + 1 ≤ w3.heap.size := (by have := hgrow1.size; simp at this; omega); have hc3 : w3.cell? ⟨b, o + k * 2, none⟩ = some (.string xk) := cell_keep hb3 hc0; have hc3' : w3.cell? ⟨b, o + k * 2 + 1, none⟩ = some (.string xv) := cell_keep hb3 hc0'; clear hown)
          (have k1 := cell_regrown hc3; have k2 := cell_regrown hc3'; have k3 := cell_regrown y0; refine wp_region_quiet_below (by kernel_rfl) (by kernel_rfl) ?_; (repeat (any_goals (first | go_big_quiet_step (fail) | quiet_step (fail)))); refine wpQuiet_nil ?_; intro _ hwq; obtain ⟨⟨dq, osq⟩, hwq⟩ := hwq; subst hwq; have hbq := below_regrown (w3) dq osq; generalize grow (redrawn (w3) dq) osq = wq at *; have hownq := ownsRow_keep hown1 hbq; have hXq : PairBox wq w.heap.size k0 v0 := Blk.keep hX3 hbq; have hcq1 := cell_keep hbq hc3; have hcq2 := cell_keep hbq hc3'; have hbrq := bstep hb3 hbq; have hzrq := Nat.le_trans hz3 hbq.size; clear k1 k2 k3 hown1 hX3 hc3 hc3' hb3 hz3 hbs3 y0 y1 hbq hgrow1; obtain ⟨y0, y1⟩ := hXq.facts; have hbs3 := hbrq.size; have hown1 := hownq; have hX3 := hXq; have hc3 := hcq1; have hc3' := hcq2; have hb3 := hbrq; have hz3 := hzrq; clear hownq hXq hcq1 hcq2 hbrq hzrq; obtain ⟨w3, rfl⟩ : ∃ x : World, x = wq := ⟨_, rfl⟩)
          go_wp2_with (at_builtin; refine wpList_append_own _ rfl _ _ 146 rfl (w.heap.size + 1) 215 i0 (.agg #[.string ⟨#[]⟩, .string ⟨#[]⟩]) 2 32 Tryz.underlying146 HI.out.1 HI.out.2.1 HI.out.2.2.1 HI.out.2.2.2 rfl (by decide) _ _ _ rfl (hown1.alloc _) ⟨w3.heap.size, 0, none⟩ 1 1 [.string xk, .string xv] rfl rfl (World.news_of_block (cs := #[.string xk, .string xv]) (t := 215) (fr := (0, 0)) (World.alloc_heap_new w3 _)) (by simp [Value.oneCell']) (by unfold maxLen; omega) (by omega) (by simp; omega) ?_; intro v' w4 hown2 hgrow2 _; obtain ⟨g2, cap2, rfl⟩ := ownsRow_succ hown2; have hb4 : Below w.heap.size w w4 := (hb3.alloc hbs3 _).grown hgrow2 (by simp; omega) (fun r e => by have := ownsRow_block hown1 r e; omega); have hX4 : PairBox w4 w.heap.size k0 v0 := (hgrow2.block _ (by simp; omega) (fun e => by have := ownsRow_block hown1 _ e.symm; omega)).trans ((Below.heap_alloc w3 _ _ (by omega)).trans hX3); have hz4 : w.heap.size + 1 ≤ w4.heap.size := (by have := hgrow2.size; simp at this; omega))
          exact ⟨⟨k + 1, m + 1 + 1, true, acc ++ [(k0, v0)] ++ [(xk, xv)], some ⟨g2, 0, none⟩, cap2, ⟨by go_num, rfl, rfl, by omega, by omega⟩, HK2, by rw [pairCells_app, pairCells_app]; exact hown2, hX4, hb4, hz4⟩, by simp [intOf]; omega⟩
      · have e1 : putA (k0, v0) (acc, pl) (xk, xv) = (acc, pl) := by
          unfold putA
          rw [if_neg]
          intro h
          simp only [Bool.and_eq_true, Bool.not_eq_true'] at h
          exact hfirst h
        have hguard : pl = true ∨ (pl = false ∧ (Op.bytesLess k0.toList xk.toList || k0.toList == xk.toList) = false) := by
          cases pl
          · right
            refine ⟨rfl, ?_⟩
            cases hle : leS k0 xk
            · exact hle
            · exact absurd ⟨rfl, hle⟩ hfirst
          · exact .inl rfl
        clear hfirst
        cases hne : (xk.toList != k0.toList)
        · have e2 : putSt (k0, v0) (acc, pl) (xk, xv) = (acc, pl) := by simp only [putSt, hne, e1]; rfl
          have HK2 := Lib.hid (show (l.take (k + 1)).foldl (putSt (k0, v0)) ([], false) = (acc, pl) ∧ acc.length = m from ⟨hst.trans e2, hml⟩)
          have hq : (xk.toList == k0.toList) = true := by simpa [bne] using hne
          have hq2 : xk.toList = k0.toList := beq_iff_eq.1 hq
          clear e1 e2 hst hml HK
          rcases hguard with rfl | ⟨rfl, hg⟩
          · go_wp2_with fail
            (have k1 := cell_regrown hc1; have k2 := cell_regrown hc2; have k3 := cell_regrown x0; refine wp_region_quiet_below (by kernel_rfl) (by kernel_rfl) ?_; (repeat (any_goals (first | go_big_quiet_step (fail) | quiet_step (fail)))); refine wpQuiet_nil ?_; intro _ hwq; obtain ⟨⟨dq, osq⟩, hwq⟩ := hwq; subst hwq; have hbq := below_regrown (wr) dq osq; generalize grow (redrawn (wr) dq) osq = wq at *; have hownq := ownsRow_keep hown hbq; have hXq : PairBox wq w.heap.size k0 v0 := Blk.keep hX hbq; have hcq1 := cell_keep hbq hc1; have hcq2 := cell_keep hbq hc2; have hbrq := bstep hbr hbq; have hzrq := Nat.le_trans hzr hbq.size; clear k1 k2 k3 hown hX hc1 hc2 hbr hzr hbs x0 x1 hbq; obtain ⟨x0, x1⟩ := hXq.facts; have hbs := hbrq.size; have hown := hownq; have hX := hXq; have hc1 := hcq1; have hc2 := hcq2; have hbr := hbrq; have hzr := hzrq; clear hownq hXq hcq1 hcq2 hbrq hzrq; obtain ⟨wr, rfl⟩ : ∃ x : World, x = wq := ⟨_, rfl⟩)
            go_wp2_with fail
            (have k1 := cell_regrown hc1; have k2 := cell_regrown hc2; have k3 := cell_regrown x0; refine wp_region_quiet_below (by kernel_rfl) (by kernel_rfl) ?_; (repeat (any_goals (first | go_big_quiet_step (fail) | quiet_step (fail)))); refine wpQuiet_nil ?_; intro _ hwq; obtain ⟨⟨dq, osq⟩, hwq⟩ := hwq; subst hwq; have hbq := below_regrown (wr) dq osq; generalize grow (redrawn (wr) dq) osq = wq at *; have hownq := ownsRow_keep hown hbq; have hXq : PairBox wq w.heap.size k0 v0 := Blk.keep hX hbq; have hcq1 := cell_keep hbq hc1; have hcq2 := cell_keep hbq hc2; have hbrq := bstep hbr hbq; have hzrq := Nat.le_trans hzr hbq.size; clear k1 k2 k3 hown hX hc1 hc2 hbr hzr hbs x0 x1 hbq; obtain ⟨x0, x1⟩ := hXq.facts; have hbs := hbrq.size; have hown := hownq; have hX := hXq; have hc1 := hcq1; have hc2 := hcq2; have hbr := hbrq; have hzr := hzrq; clear hownq hXq hcq1 hcq2 hbrq hzrq; obtain ⟨wr, rfl⟩ : ∃ x : World, x = wq := ⟨_, rfl⟩)
            go_wp2
            exact ⟨⟨k + 1, m, _, acc, A', c', ⟨by go_num, rfl, rfl, by omega, by omega⟩, HK2, hown, hX, hbr, hzr⟩, by simp [intOf]; omega⟩
          · exact absurd hg (by rw [hq2]; simp)
        · have e2 : putSt (k0, v0) (acc, pl) (xk, xv) = (acc ++ [(xk, xv)], pl) := by simp only [putSt, hne, e1]; rfl
          have HK2 := Lib.hid (show (l.take (k + 1)).foldl (putSt (k0, v0)) ([], false) = (acc ++ [(xk, xv)], pl) ∧ (acc ++ [(xk, xv)]).length = m + 1 from ⟨hst.trans e2, by simp [hml]⟩)
          have hq : ¬ xk.toList = k0.toList := by simpa [bne] using hne
          have hq3 : (xk.toList == k0.toList) = false := by simpa using hq
          clear e1 e2 hst hml HK
          rcases hguard with rfl | ⟨rfl, hg⟩
          all_goals
            go_wp2_with fail
            (have k1 := cell_regrown hc1; have k2 := cell_regrown hc2; have k3 := cell_regrown x0; refine wp_region_quiet_below (by kernel_rfl) (by kernel_rfl) ?_; (repeat (any_goals (first | go_big_quiet_step (fail) | quiet_step (fail)))); refine wpQuiet_nil ?_; intro _ hwq; obtain ⟨⟨dq, osq⟩, hwq⟩ := hwq; subst hwq; have hbq := below_regrown (wr) dq osq; generalize grow (redrawn (wr) dq) osq = wq at *; have hownq := ownsRow_keep hown hbq; have hXq : PairBox wq w.heap.size k0 v0 := Blk.keep hX hbq; have hcq1 := cell_keep hbq hc1; have hcq2 := cell_keep hbq hc2; have hbrq := bstep hbr hbq; have hzrq := Nat.le_trans hzr hbq.size; clear k1 k2 k3 hown hX hc1 hc2 hbr hzr hbs x0 x1 hbq; obtain ⟨x0, x1⟩ := hXq.facts; have hbs := hbrq.size; have hown := hownq; have hX := hXq; have hc1 := hcq1; have hc2 := hcq2; have hbr := hbrq; have hzr := hzrq; clear hownq hXq hcq1 hcq2 hbrq hzrq; obtain ⟨wr, rfl⟩ : ∃ x : World, x = wq := ⟨_, rfl⟩)
            go_wp2_with fail
            (have k1 := cell_regrown hc1; have k2 := cell_regrown hc2; have k3 := cell_regrown x0; refine wp_region_quiet_below (by kernel_rfl) (by kernel_rfl) ?_; (repeat (any_goals (first | go_big_quiet_step (fail) | quiet_step (fail)))); refine wpQuiet_nil ?_; intro _ hwq; obtain ⟨⟨dq, osq⟩, hwq⟩ := hwq; subst hwq; have hbq := below_regrown (wr) dq osq; generalize grow (redrawn (wr) dq) osq = wq at *; have hownq := ownsRow_keep hown hbq; have hXq : PairBox wq w.heap.size k0 v0 := Blk.keep hX hbq; have hcq1 := cell_keep hbq hc1; have hcq2 := cell_keep hbq hc2; have hbrq := bstep hbr hbq; have hzrq := Nat.le_trans hzr hbq.size; clear k1 k2 k3 hown hX hc1 hc2 hbr hzr hbs x0 x1 hbq; obtain ⟨x0, x1⟩ := hXq.facts; have hbs := hbrq.size; have hown := hownq; have hX := hXq; have hc1 := hcq1; have hc2 := hcq2; have hbr := hbrq; have hzr := hzrq; clear hownq hXq hcq1 hcq2 hbrq hzrq; obtain ⟨wr, rfl⟩ : ∃ x : World, x = wq := ⟨_, rfl⟩)
            go_wp2_with (at_builtin; refine wpList_append_own _ rfl _ _ 146 rfl (w.heap.size + 1) 215 i0 (.agg #[.string ⟨#[]⟩, .string ⟨#[]⟩]) 2 32 Tryz.underlying146 HI.out.1 HI.out.2.1 HI.out.2.2.1 HI.out.2.2.2 rfl (by decide) _ _ _ rfl (hown.alloc _) ⟨wr.heap.size, 0, none⟩ 1 1 [.string xk, .string xv] rfl rfl (World.news_of_block (cs := #[.string xk, .string xv]) (t := 215) (fr := (0, 0)) (World.alloc_heap_new wr _)) (by simp [Value.oneCell']) (by unfold maxLen; omega) (by omega) (by simp; omega) ?_; intro v' w3 hown1 hgrow1 _; obtain ⟨g1, cap1, rfl⟩ := ownsRow_succ hown1; have hb3 : Below w.heap.size w w3 := (hbr.alloc hbs _).grown hgrow1 (by simp; omega) (fun r e => by have := ownsRow_block hown r e; omega); have hX3 : PairBox w3 w.heap.size k0 v0 := (hgrow1.block _ (by simp; omega) (fun e => by have := ownsRow_block hown _ e.symm; omega)).trans ((Below.heap_alloc wr _ _ (by omega)).trans hX); have hz3 : w.heap.size + 1 ≤ w3.heap.size := (by have := hgrow1.size; simp at this; omega); clear hown)
            exact ⟨⟨k + 1, m + 1, _, acc ++ [(xk, xv)], some ⟨g1, 0, none⟩, cap1, ⟨by go_num, rfl, rfl, by omega, by omega⟩, HK2, by rw [pairCells_app]; exact hown1, hX3, hb3, hz3⟩, by simp [intOf]; omega⟩
    · obtain rfl : k = n := by omega
      have hfin : l.foldl (putSt (k0, v0)) ([], false) = (acc, pl) := by
        have := HK.out.1
        rwa [List.take_of_length_le (by have := HL.out; omega)] at this
      have hml := HK.out.2
      cases pl
      · have hv : putB l (k0, v0) = acc ++ [(k0, v0)] := by unfold putB; rw [hfin]; rfl
        have hvl : (putB l (k0, v0)).length = m + 1 := by rw [hv]; simp [hml]
        have HV := Lib.hid hv
        have HVL := Lib.hid hvl
        clear hv hvl hfin hml HK
        go_wp2_with (at_builtin; refine wpList_append_own _ rfl _ _ 146 rfl (w.heap.size + 1) 215 i0 (.agg #[.string ⟨#[]⟩, .string ⟨#[]⟩]) 2 32 Tryz.underlying146 HI.out.1 HI.out.2.1 HI.out.2.2.1 HI.out.2.2.2 rfl (by decide) _ _ _ rfl (hown.alloc _) ⟨wr.heap.size, 0, none⟩ 1 1 [.string k0, .string v0] rfl rfl (World.news_of_block (cs := #[.string k0, .string v0]) (t := 215) (fr := (0, 0)) (World.alloc_heap_new wr _)) (by simp [Value.oneCell']) (by unfold maxLen; omega) (by omega) (by simp; omega) ?_; intro v' w3 hown1 hgrow1 _; obtain ⟨g1, cap1, rfl⟩ := ownsRow_succ hown1)
        go_ret
        refine ⟨some ⟨g1, 0, none⟩, cap1, by rw [HVL.out]; rfl, by rw [HVL.out, HV.out, pairCells_app]; exact Reads.of_own hown1, fun a ha => by have := ownsRow_block hown1 a.block (by rw [ha]; rfl); omega, (hbr.alloc hbs _).grown hgrow1 (by simp; omega) (fun r e => by have := ownsRow_block hown r e; omega)⟩
      · have hv : putB l (k0, v0) = acc := by unfold putB; rw [hfin]; rfl
        have HV := Lib.hid hv
        have HML := Lib.hid hml
        clear hv hfin hml HK
        go_wp2
        go_ret
        refine ⟨A', c', by rw [HV.out, HML.out]; rfl, by rw [HV.out, HML.out]; exact Reads.of_own hown, fun a ha => by have := ownsRow_block hown a.block (by rw [ha]; rfl); omega, hbr⟩
end Go.Proofs.YtdlbfjoemabfpaaGreatDoor
namespace Go.Proofs.YtdlbfjoemabfpaaGreatDoor
open Go.RowKit Go.Sort
set_option linter.unusedVariables false
set_option linter.unusedSimpArgs false
set_option maxRecDepth 100000
theorem putP_len (p : BP) : ∀ l, (putP p l).length ≤ l.length + 1
  | [] => by simp [putP]
  | x :: l => by
    unfold putP
    split
    · have := List.length_filter_le (fun y : BP => y.1.toList != p.1.toList) (x :: l)
      simp only [List.length_cons] at this ⊢; omega
    · have := putP_len p l
      simp only [List.length_cons]; omega
theorem putB_len (l : List BP) (p : BP) : (putB l p).length ≤ l.length + 1 := by rw [putB_eq]; exact putP_len p l
theorem PairsPost.some2 {out : List BP} {w w' : World} {A : Option Addr} {c m : Nat} (hm : out.length = m) (hb : Below w.heap.size w w') (hR : Reads w' 2 A m (pairCells out)) (ha : ∀ a, A = some a → w.heap.size ≤ a.block) : PairsPost (some out) w (.returned (.tuple #[.slice A m c, .bool true])) w' := by
  subst hm; exact ⟨hb, A, c, rfl, hR, ha⟩
theorem PairsPost.none_ {w w' : World} (hb : Below w.heap.size w w') : PairsPost none w (.returned (.tuple #[.slice none 0 0, .bool false])) w' := ⟨hb, rfl⟩
set_option maxHeartbeats 4000000 in
theorem rQuery_any (s : ByteArray) (w : World) (hs : s.size ≤ 100000) : Calls Tryz.prog 157 #[.string s] w (PairsPost (pairsB s) w) := by
  rw [pairsB_ref]
  cases hem : s.toList.isEmpty
  rotate_left
  · rw [if_pos rfl]
    have hq : s.toList = [] := List.isEmpty_iff.1 hem
    go_enter Tryz.func157, Tryz.ntmps157
    go_wp2
    go_ret2
    exact PairsPost.some2 rfl belB (Reads.nil_ _ _ _) (fun a ha => by cases ha)
  rw [if_neg (by simp)]
  have hne : (s.toList == []) = false := by
    cases h : s.toList with
    | nil => rw [h] at hem; cases hem
    | cons a l => rfl
  have hne2 : ¬ s.toList = [] := by simpa using hne
  have cS := fun W => rSplit_any s 38 W (by omega)
  have hsz := splitB_size 38 s
  have hnum := splitB_num 38 s
  generalize splitB 38 s = ps at *
  generalize hV : PairsPost (qRef [] ps) w = V
  have HV := Lib.hid hV
  have HS := Lib.hid cS
  have HZ := Lib.hid hsz
  clear hV cS hsz hem
  go_enter Tryz.func157, Tryz.ntmps157
  go_wp2_with (go_at_call 137; refine (HS.out _).mono ?_; rintro e w1 ⟨A, c, rfl, hown, hb1⟩; have HR := Lib.hid (Reads.of_own hown); clear hown)
  go_loopw [4, 6] (fun vo vi wr => ∃ (k m : Nat) (acc : List BP) (A' : Option Addr) (c' : Nat), (vi = .int .i64 k ∧ vo = .slice A' m c' ∧ k ≤ ps.length ∧ m ≤ k) ∧ Hid (qRef [] ps = qRef acc (ps.drop k) ∧ acc.length = m) ∧ Hid (Reads wr 2 A' m (pairCells acc)) ∧ (∀ a, A' = some a → w.heap.size ≤ a.block) ∧ Below w1.heap.size w1 wr) (fun _ i _ => ps.length - (intOf i).toNat)
  case atStart => exact ⟨0, 0, [], none, 0, ⟨rfl, rfl, Nat.zero_le _, Nat.le_refl _⟩, Lib.hid ⟨rfl, rfl⟩, Lib.hid (Reads.nil_ _ _ _), fun a ha => (by cases ha), Below.refl _ _⟩
  case round =>
    obtain ⟨k, m, acc, A', c', ⟨rfl, rfl, hk, hm⟩, HK, HA, hAb, hbr⟩ := hrel
    by_cases hlt : k < ps.length
    · obtain ⟨x, hx⟩ : ∃ x, ps[k]? = some x := ⟨_, List.getElem?_eq_getElem hlt⟩
      obtain ⟨b, o, rfl, hcell⟩ := (HR.out.keep hbr).2 (by omega)
      have hc1 : wr.cell? ⟨b, o + k, none⟩ = some (.string x) := hcell k _ (by simp [hx])
      have hk0 : (0 : Int) ≤ (k : Int) := by omega
      have hk1 : (k : Int) < (ps.length : Int) := by omega
      have hd : ps.drop k = x :: ps.drop (k + 1) := by
        obtain ⟨hl2, rfl⟩ := List.getElem?_eq_some_iff.1 hx
        exact List.drop_eq_getElem_cons hl2
      have hxs : x.size ≤ s.size := HZ.out x (List.mem_of_getElem? hx)
      have cC := fun W => rCut_any x 61 W (by omega)
      have hr1 := HK.out.1
      have hml := HK.out.2
      have l1 := cut_fst_len x.data.toList [61]
      have l2 := cut_snd_len x.data.toList [61]
      rw [← Lib.size_eq] at l1 l2
      rw [hd, qRef] at hr1
      unfold parsePair at hr1
      unfold cutV at cC
      generalize Lib.cut x.data.toList [61] = ct at *
      obtain ⟨ka, va, is⟩ := ct
      dsimp only at hr1 cC l1 l2
      have cN := fun W => rName_any (toB ka) W (by rw [toB_size]; omega)
      have cW := fun W => rWord_any (toB va) W (by rw [toB_size]; omega)
      have HC := Lib.hid cC
      clear hcell hx hd HK cC l1 l2
      cases is
      · have HN0 : Hid (qRef [] ps = none) := Lib.hid (by rw [hr1]; rfl)
        clear hr1 cN cW
        go_wp2_with (go_at_call 154; refine (HC.out _).mono ?_; rintro e w2 ⟨rfl, hb2⟩)
        rw [← HV.out, HN0.out]
        exact PairsPost.none_ belB
      cases hn : isNameB (toB ka)
      · have HN0 : Hid (qRef [] ps = none) := Lib.hid (by rw [hr1, hn]; rfl)
        rw [hn] at cN
        have HN := Lib.hid cN
        clear hr1 cN cW hn
        go_wp2_with (first | (go_at_call 154; refine (HC.out _).mono ?_; rintro e w2 ⟨rfl, hb2⟩) | (go_at_call 50; refine (HN.out _).mono ?_; rintro e w3 ⟨rfl, hb3⟩))
        rw [← HV.out, HN0.out]
        exact PairsPost.none_ belB
      cases hw : isWordB (toB va)
      · have HN0 : Hid (qRef [] ps = none) := Lib.hid (by rw [hr1, hn, hw]; rfl)
        rw [hn] at cN
        rw [hw] at cW
        have HN := Lib.hid cN
        have HW := Lib.hid cW
        clear hr1 cN cW hn hw
        go_wp2_with (first | (go_at_call 154; refine (HC.out _).mono ?_; rintro e w2 ⟨rfl, hb2⟩) | (go_at_call 50; refine (HN.out _).mono ?_; rintro e w3 ⟨rfl, hb3⟩) | (go_at_call 90; refine (HW.out _).mono ?_; rintro e w4 ⟨rfl, hb4⟩))
        rw [← HV.out, HN0.out]
        exact PairsPost.none_ belB
      · have hr2 : qRef [] ps = qRef (putB acc (toB ka, toB va)) (ps.drop (k + 1)) := by rw [hr1, hn, hw]; rfl
        have hln := putB_len acc (toB ka, toB va)
        rw [hml] at hln
        have cP := fun W h => rPut_any A' m c' acc (toB ka) (toB va) W h (by omega)
        rw [hn] at cN
        rw [hw] at cW
        have HN := Lib.hid cN
        have HW := Lib.hid cW
        have HP := Lib.hid cP
        have HK2 := Lib.hid hr2
        clear hr1 cN cW hn hw cP hr2
        generalize putB acc (toB ka, toB va) = acc2 at *
        go_wp2_with (first | (go_at_call 154; refine (HC.out _).mono ?_; rintro e w2 ⟨rfl, hb2⟩) | (go_at_call 50; refine (HN.out _).mono ?_; rintro e w3 ⟨rfl, hb3⟩) | (go_at_call 90; refine (HW.out _).mono ?_; rintro e w4 ⟨rfl, hb4⟩) | (go_at_call 198; refine (HP.out _ (HA.out.keep belB)).mono ?_; rintro e w5 ⟨A2, c2, rfl, hR2, hA2, hb5⟩))
        exact ⟨⟨k + 1, acc2.length, acc2, A2, c2, ⟨by go_num, rfl, by omega, by omega⟩, Lib.hid ⟨HK2.out, rfl⟩, Lib.hid hR2, fun a ha => by have := hA2 a ha; have := hb1.size; have := hbr.size; have := hb2.size; have := hb3.size; have := hb4.size; omega, belB⟩, by simp [intOf]; omega⟩
    · obtain rfl : k = ps.length := by omega
      have hfin : qRef [] ps = some acc := by rw [HK.out.1, List.drop_eq_nil_of_le (Nat.le_refl _), qRef]
      have HF := Lib.hid hfin
      have hml := HK.out.2
      clear hfin HK
      go_wp2
      rw [← HV.out, HF.out]
      exact PairsPost.some2 hml belB HA.out hAb
end Go.Proofs.YtdlbfjoemabfpaaGreatDoor
namespace Go.Proofs.YtdlbfjoemabfpaaGreatDoor
open Go.RowKit Go.Sort
set_option linter.unusedVariables false
set_option linter.unusedSimpArgs false
set_option maxRecDepth 100000
theorem all_take {α : Type} {p : α → Bool} {l : List α} {k : Nat} {x : α} (h : (l.take k).all p = true) (hx : l[k]? = some x) (hp : p x = true) : (l.take (k + 1)).all p = true := by
  rw [List.take_add_one, hx]
  simp [h, hp]
theorem all_false {α : Type} {p : α → Bool} {l : List α} {k : Nat} {x : α} (hx : l[k]? = some x) (hp : p x = false) : l.all p = false := by
  rw [List.all_eq_false]
  exact ⟨x, List.mem_of_getElem? hx, by rw [hp]; decide⟩
end Go.Proofs.YtdlbfjoemabfpaaGreatDoor
