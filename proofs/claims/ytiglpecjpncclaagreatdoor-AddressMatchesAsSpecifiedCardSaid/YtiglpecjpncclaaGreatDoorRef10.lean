/- What the specification's path returns: the parts that 'resolve' leaves. -/
import Derived.Test.YtiglpecjpncclaaGreatDoorRef4
import Derived.Test.YtiglpecjpncclaaGreatDoorResolve
import Derived.Test.YtiglpecjpncclaaGreatDoorProg
import Derived.WalkKit
import Derived.WalkSpells
import Derived.WalkLawsBesides
import Derived.Below
import Derived.Deep.QuietTactic
import Derived.BigQuiet
import Derived.Lib.QuietBelow
import Derived.Lib.Strings
import Derived.Lib.Hide
import Derived.Deep.RegionWith
import Derived.Deep.RegionHeld3
import Derived.Lib.IndexBytes
namespace Go.Proofs.YtiglpecjpncclaaGreatDoor
open Go.RowKit Go.Sort
set_option linter.unusedVariables false
set_option linter.unusedSimpArgs false
set_option maxRecDepth 100000
def RPathPost (r : Option (List ByteArray)) (w : World) (e : Ending) (w' : World) : Prop :=
  Below w.heap.size w w' ∧ match r with
    | none => e = .returned (.tuple #[.slice none 0 0, .bool false])
    | some out => ∃ A c, e = .returned (.tuple #[.slice A out.length c, .bool true]) ∧ Reads w' 1 A out.length (out.map .string) ∧ (∀ a, A = some a → w.heap.size ≤ a.block)
set_option maxHeartbeats 4000000 in
theorem rPath_any (A : Option Addr) (n c : Nat) (l : List ByteArray) (w : World) (hR : Reads w 1 A n (l.map .string)) (hn : n ≤ 1000000) (hsz : ∀ p ∈ l, p.size ≤ 4294967281) : Calls Tryz.prog 54 #[.slice A n c] w (RPathPost (resB [] l) w) := by
  have hl : l.length = n := by have := hR.1; simpa using this
  obtain ⟨i0, hi0, hz0, hz1, hz2⟩ := info_parts infoStr
  have HI : Hid ((Tryz.prog.info? 9 = some i0) ∧ i0.zero = some (.string ⟨#[]⟩) ∧ i0.size = 1 ∧ i0.bytes = 16) := Lib.hid ⟨hi0, hz0, hz1, hz2⟩
  have HL := Lib.hid hl
  have HR := Lib.hid hR
  have HZ := Lib.hid hsz
  generalize hV : RPathPost (resB [] l) w = V
  have HV := Lib.hid hV
  clear hi0 hz0 hz1 hz2 hl hR hsz hV
  go_enter Tryz.func54, Tryz.ntmps54
  go_wp2
  go_loopw [4, 5] (fun va vi wr => ∃ (k m : Nat) (acc : List ByteArray) (A' : Option Addr) (c' : Nat), (vi = .int .i64 k ∧ va = .slice A' m c' ∧ k ≤ n ∧ m ≤ k) ∧ Hid (resB [] l = resB acc (l.drop k) ∧ acc.length = m) ∧ wr.ownsRow w.heap.size 9 1 (.slice A' m c') m (acc.map .string) ∧ Below w.heap.size w wr) (fun _ i _ => n - (intOf i).toNat)
  case atStart => exact ⟨0, 0, [], none, 0, ⟨rfl, rfl, Nat.zero_le _, Nat.le_refl _⟩, Lib.hid ⟨rfl, rfl⟩, World.ownsRow_nil _ _ _ _, Below.refl _ _⟩
  case round =>
    obtain ⟨k, m, acc, A', c', ⟨rfl, rfl, hk, hm⟩, HK, hown, hbr⟩ := hrel
    have hbs := hbr.size
    by_cases hlt : k < n
    · obtain ⟨x, hx⟩ : ∃ x, l[k]? = some x := ⟨_, List.getElem?_eq_getElem (by have := HL.out; omega)⟩
      obtain ⟨b, o, rfl, hcell⟩ := HR.out.2 (by omega)
      have hc0 : w.cell? ⟨b, o + k, none⟩ = some (.string x) := hcell k _ (by simp [hx])
      have hc1 : wr.cell? ⟨b, o + k, none⟩ = some (.string x) := cell_keep hbr hc0
      have hk0 : (0 : Int) ≤ (k : Int) := by omega
      have hk1 : (k : Int) < (n : Int) := by omega
      have hd : l.drop k = x :: l.drop (k + 1) := by
        obtain ⟨hl2, rfl⟩ := List.getElem?_eq_some_iff.1 hx
        exact List.drop_eq_getElem_cons hl2
      have hr1 := HK.out.1
      rw [hd, resB] at hr1
      have hml := HK.out.2
      have hxs : x.size ≤ 4294967281 := HZ.out x (List.mem_of_getElem? hx)
      have cW := fun W => rWord_any x W hxs
      clear hcell hx hd HK
      cases e1 : (x.toList == [46])
      rotate_left
      · have hr2 := hr1
        simp only [resStep, e1, if_true, Option.bind_some] at hr2
        have HK2 := Lib.hid (show resB [] l = resB acc (l.drop (k + 1)) ∧ acc.length = m from ⟨hr2, hml⟩)
        clear hr1 hr2 hml cW
        go_wp2
        exact ⟨⟨k + 1, m, acc, A', c', ⟨by go_num, rfl, by omega, by omega⟩, HK2, hown, hbr⟩, by simp [intOf]; omega⟩
      have e1' : ¬ x.toList = [46] := by simpa using e1
      cases e2 : (x.toList == [46, 46])
      rotate_left
      · by_cases hm0 : m = 0
        · subst hm0
          obtain rfl : acc = [] := List.eq_nil_of_length_eq_zero hml
          have hwf : isWordB x = false := by simp [isWordB, beq_iff_eq.1 e2]
          have hn : resB [] l = none := by rw [hr1]; simp [resStep, e1, e2, hwf]
          have HN := Lib.hid hn
          clear hr1 hml cW hwf hn
          go_wp2
          rw [← HV.out, HN.out]
          exact ⟨by (repeat (first | exact Below.refl _ _ | assumption | refine Below.drew ?_ | refine balloc ?_ _ | refine bdrewN ?_ _ | refine Below.setCell ?_ (by first | (simp; done) | (simp; omega)) _ | refine bstep ?_ (by assumption))), rfl⟩
        · obtain ⟨init, last, hacc⟩ : ∃ init last, acc = init ++ [last] := by
            rcases List.eq_nil_or_concat acc with rfl | ⟨init, last, rfl⟩
            · exact absurd hml.symm hm0
            · exact ⟨init, last, by rw [List.concat_eq_append]⟩
          subst hacc
          obtain ⟨m', rfl⟩ : ∃ m', m = m' + 1 := ⟨m - 1, by omega⟩
          have hil : init.length = m' := by simpa using hml
          have hr2 := hr1
          rw [show resStep (init ++ [last]) x = some init by simp [resStep, e1, e2], Option.bind_some] at hr2
          have HK2 := Lib.hid (show resB [] l = resB init (l.drop (k + 1)) ∧ init.length = m' from ⟨hr2, hil⟩)
          clear hr1 hr2 hml cW
          obtain ⟨g, hA⟩ : ∃ g, A' = some ⟨g, 0, none⟩ := by
            obtain ⟨g, cap, hv⟩ := ownsRow_succ hown
            injection hv with hv
            exact ⟨g, hv⟩
          subst hA
          have hpop : Hid (∀ j u, (init.map Value.string)[j]? = some u → wr.cell? ⟨g, j, none⟩ = some u) := Lib.hid fun j u hu => by
            have hjl : j < (init.map Value.string).length := (List.getElem?_eq_some_iff.1 hu).1
            rw [hown.cellAt j (by simp at hjl; omega), List.map_append, List.getElem?_append_left hjl]
            exact hu
          have hcap := ownsRow_cap hown
          have hgb := ownsRow_block hown g rfl
          have hgl : g < wr.heap.size := (hown.lt g rfl).2
          clear hown
          have hpos : ((m' : Int) + 1 == 0) = false := beq_eq_false_iff_ne.2 (by omega)
          have q1 : (0 : Int) ≤ (m' : Int) := by omega
          have hone : ∀ u ∈ init.map Value.string, u.oneCell' = true := by
            intro u hu; obtain ⟨_, _, rfl⟩ := List.mem_map.1 hu; rfl
          have hlen : (init.map Value.string).length = m' * 1 := by simp [hil]
          have hadd : ∀ j, (⟨g, 0, none⟩ : Addr).add j = ⟨g, j, none⟩ := fun j => by unfold Addr.add; split <;> simp_all
          have hnew : ∀ j u, (init.map Value.string)[j]? = some u → (wr.alloc (.cells #[] 9)).cell? ((⟨g, 0, none⟩ : Addr).add j) = some u := fun j u hu => by
            rw [hadd, World.cell?_of_block (w := wr) (Below.heap_alloc wr _ g hgl)]
            exact hpop.out j u hu
          have HN2 := Lib.hid hnew; have HO := Lib.hid hone; have HLN := Lib.hid hlen
          clear hnew hone hlen hadd
          go_wp2_with (at_builtin; refine wpList_append_own _ rfl _ _ 22 rfl w.heap.size 9 i0 (.string ⟨#[]⟩) 1 16 Tryz.underlying22 HI.out.1 HI.out.2.1 HI.out.2.2.1 HI.out.2.2.2 rfl (by decide) _ _ _ rfl (World.ownsRow_made (base := w.heap.size) (e := 9) (size := 1) wr #[] 0 hbs (Nat.zero_le _) rfl) ⟨g, 0, none⟩ m' c' (init.map .string) rfl HLN.out HN2.out HO.out (by unfold maxLen; omega) (by omega) (by simp; omega) ?_; intro v' w3 hown3 hgrow3 _)
          obtain ⟨A3, c3, rfl⟩ : ∃ A3 c3, v' = .slice A3 m' c3 := by
            rcases hown3.2 with ⟨h1, h2⟩ | ⟨g3, cap3, cur3, h1, _⟩
            · exact ⟨none, 0, by rw [h1]; congr 1; omega⟩
            · exact ⟨_, _, by rw [h1]; congr 1; omega⟩
          exact ⟨⟨k + 1, m', init, A3, c3, ⟨by go_num, rfl, by omega, by omega⟩, HK2, by simpa using hown3, (hbr.alloc hbs _).grown hgrow3 (by simp; omega) (fun r e => by injection e with e; simp at e; omega)⟩, by simp [intOf]; omega⟩
      have e2' : ¬ x.toList = [46, 46] := by simpa using e2
      cases hw : isWordB x
      · have hn : resB [] l = none := by rw [hr1]; simp [resStep, e1, e2, hw]
        rw [hw] at cW
        have HW := Lib.hid cW
        have HN := Lib.hid hn
        clear hr1 hml cW hw hn
        go_wp2_with (go_at_call 95; refine (HW.out _).mono ?_; rintro e w1 ⟨rfl, hb1⟩)
        rw [← HV.out, HN.out]
        exact ⟨by (repeat (first | exact Below.refl _ _ | assumption | refine Below.drew ?_ | refine balloc ?_ _ | refine bdrewN ?_ _ | refine Below.setCell ?_ (by first | (simp; done) | (simp; omega)) _ | refine bstep ?_ (by assumption))), rfl⟩
      · have hr2 := hr1
        rw [show resStep acc x = some (acc ++ [x]) by simp [resStep, e1, e2, hw], Option.bind_some] at hr2
        have HK2 := Lib.hid (show resB [] l = resB (acc ++ [x]) (l.drop (k + 1)) ∧ (acc ++ [x]).length = m + 1 from ⟨hr2, by simp [hml]⟩)
        rw [hw] at cW
        have HW := Lib.hid cW
        clear hr1 hr2 hml cW hw
        go_wp2_with (first | (go_at_call 95; refine (HW.out _).mono ?_; rintro e w1 ⟨rfl, hb1⟩; have hown1 := ownsRow_keep hown hb1; have hbs1 := hb1.size; have hbw1 := bstep hbr hb1; have hc2 := cell_keep hb1 hc1; clear hown) | (at_builtin; refine wpList_append_own _ rfl _ _ 22 rfl w.heap.size 9 i0 (.string ⟨#[]⟩) 1 16 Tryz.underlying22 HI.out.1 HI.out.2.1 HI.out.2.2.1 HI.out.2.2.2 rfl (by decide) _ _ _ rfl (hown1.alloc _) ⟨w1.heap.size, 0, none⟩ 1 1 [.string x] rfl rfl (cell_one_new _ _ _) (by simp [Value.oneCell']) (by unfold maxLen; omega) (by omega) (by simp; omega) ?_; intro v' w3 hown3 hgrow3 _; obtain ⟨g1, cap1, rfl⟩ := ownsRow_succ hown3; have hb3 : Below w.heap.size w w3 := (hbw1.alloc hbw1.size _).grown hgrow3 (by simp; omega) (fun r e => ownsRow_block hown1 r e)))
        exact ⟨⟨k + 1, m + 1, acc ++ [x], some ⟨g1, 0, none⟩, cap1, ⟨by go_num, rfl, by omega, by omega⟩, HK2, by rw [List.map_append]; exact hown3, hb3⟩, by simp [intOf]; omega⟩
    · obtain rfl : k = n := by omega
      have hfin : resB [] l = some acc := by
        rw [HK.out.1, List.drop_eq_nil_of_le (by have := HL.out; omega), resB]
      have HF := Lib.hid hfin
      have hml := HK.out.2
      clear hfin HK
      go_wp2
      rw [← HV.out, HF.out]
      exact ⟨by (repeat (first | exact Below.refl _ _ | assumption | refine Below.drew ?_ | refine balloc ?_ _ | refine bdrewN ?_ _ | refine Below.setCell ?_ (by first | (simp; done) | (simp; omega)) _ | refine bstep ?_ (by assumption))), A', c', by rw [hml]; rfl, by rw [hml]; exact Reads.of_own hown, fun a ha => by have := ownsRow_block hown a.block (by rw [ha]; rfl); omega⟩

end Go.Proofs.YtiglpecjpncclaaGreatDoor
