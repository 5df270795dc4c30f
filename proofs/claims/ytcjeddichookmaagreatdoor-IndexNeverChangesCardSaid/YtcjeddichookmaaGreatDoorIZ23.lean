/- Whether two items are equal. -/
import Derived.Test.YtcjeddichookmaaGreatDoorIZ22
import Derived.Test.YtcjeddichookmaaGreatDoorIZ15
import Derived.Test.YtcjeddichookmaaGreatDoorProg
import Derived.WalkKit
import Derived.WalkSpells
import Derived.WalkLawsBesides
import Derived.Below
import Derived.Deep.QuietTactic
import Derived.BigQuiet
import Derived.Lib.QuietBelow
import Derived.Lib.Strings
import Derived.Lib.Hide
import Derived.Deep.RegionWith
import Derived.Deep.RegionHeld3
import Derived.Lib.IndexBytes
import Derived.Laws.StructEq
import Derived.LaidEqlPtr
import Derived.Test.YtcjeddichookmaaGreatDoorIZ1
import Derived.Lib.SmallJoins
import Derived.Deep.Slices
import Derived.Deep.Fields
namespace Go.Proofs.YtcjeddichookmaaGreatDoor
open Go.RowKit Go.Sort
set_option linter.unusedVariables false
set_option linter.unusedSimpArgs false
set_option maxRecDepth 100000
def eqI (x y : It) : Bool := (x.k.toList == y.k.toList) && ((x.t.toList == y.t.toList) && ((x.z == y.z) && (x.r == y.r)))
theorem eqI_in (x y : It) (w : World) : (Op.equalIn 10000 34 (.agg #[.string x.k, .string x.t, .int .i64 x.z, .int .i64 x.r]) (.agg #[.string y.k, .string y.t, .int .i64 y.z, .int .i64 y.r])).run Tryz.prog w = .ok (eqI x y) w := by
  unfold eqI
  simp [go_sem]
  by_cases h1 : x.k.toList = y.k.toList
  · by_cases h2 : x.t.toList = y.t.toList
    · by_cases h3 : x.z = y.z
      · by_cases h4 : x.r = y.r
        · simp [h1, h2, h3, h4]
        · simp [h1, h2, h3, h4]
      · simp [h1, h2, h3]
    · simp [h1, h2]
  · simp [h1]
theorem item_eql (x y : It) (w : World) : (binOp .eql 34 (.agg #[.string x.k, .string x.t, .int .i64 x.z, .int .i64 x.r]) (.agg #[.string y.k, .string y.t, .int .i64 y.z, .int .i64 y.r])).run Tryz.prog w = .ok (.bool (eqI x y)) w := by
  rw [run_eql_struct, eqI_in]; rfl
theorem item_neq (x y : It) (w : World) : (binOp .neq 34 (.agg #[.string x.k, .string x.t, .int .i64 x.z, .int .i64 x.r]) (.agg #[.string y.k, .string y.t, .int .i64 y.z, .int .i64 y.r])).run Tryz.prog w = .ok (.bool (!eqI x y)) w := by
  rw [run_neq_struct, eqI_in]; rfl
end Go.Proofs.YtcjeddichookmaaGreatDoor
namespace Go.Proofs.YtcjeddichookmaaGreatDoor
open Go.RowKit Go.Sort
set_option linter.unusedVariables false
set_option linter.unusedSimpArgs false
set_option maxRecDepth 100000
theorem from_nil (L : List It) : ixFrom L ⟨#[]⟩ = L := by
  unfold ixFrom
  rw [List.filter_eq_self]
  intro y _
  have : ltB y.k ⟨#[]⟩ = false := by
    unfold ltB
    simp
  rw [this]; rfl
theorem take_100 {L : List It} (h : L.length ≤ 40) : takeI 100 (ixFrom L ⟨#[]⟩) = L := by
  rw [from_nil]
  unfold takeI
  rw [List.take_of_length_le]
  simp; omega
theorem few_small {os : List OpI} (hf : fewO os = true) : os.length ≤ 40 ∧ ∀ o ∈ os, o.it.k.size ≤ 300 ∧ o.it.t.size ≤ 300 := by
  unfold fewO at hf
  simp only [Bool.and_eq_true, decide_eq_true_eq, List.all_eq_true] at hf
  refine ⟨hf.2, fun o ho => ?_⟩
  have := hf.1 o ho
  unfold smallI at this
  simpa using this
end Go.Proofs.YtcjeddichookmaaGreatDoor
namespace Go.Proofs.YtcjeddichookmaaGreatDoor
open Go.RowKit Go.Sort
set_option linter.unusedVariables false
set_option linter.unusedSimpArgs false
set_option maxRecDepth 100000
theorem own_type_ne {w : World} {b1 b2 s1 s2 n1 n2 : Nat} {e1 e2 : TypeId} {v1 v2 : Value} {x1 x2 : List Value} (h1 : w.ownsRow b1 e1 s1 v1 n1 x1) (h2 : w.ownsRow b2 e2 s2 v2 n2 x2) (he : e1 ≠ e2) : v1.ownBlock = none ∨ v1.ownBlock ≠ v2.ownBlock := by
  rcases h1.2 with ⟨rfl, _⟩ | ⟨g, cap, cur, rfl, _, hg, _⟩
  · exact .inl rfl
  · rcases h2.2 with ⟨rfl, _⟩ | ⟨g', cap', cur', rfl, _, hg', _⟩
    · exact .inr (by simp [Value.ownBlock])
    · refine .inr fun e => ?_
      simp only [Value.ownBlock, Option.some.injEq] at e
      subst e
      rw [hg] at hg'
      injection hg' with hg'
      injection hg' with _ h _
      exact he h
theorem row_type_ne {w : World} {b s n g : Nat} {e t : TypeId} {v : Value} {x cs : List Value} (h : w.ownsRow b e s v n x) (hr : RowV w g t cs) (he : t ≠ e) : some g ≠ v.ownBlock := by
  rcases h.2 with ⟨rfl, _⟩ | ⟨g', cap', cur', rfl, _, hg', _⟩
  · simp [Value.ownBlock]
  · intro e2
    simp only [Value.ownBlock, Option.some.injEq] at e2
    subst e2
    unfold RowV at hr
    rw [hr] at hg'
    injection hg' with hg'
    injection hg' with _ h _
    exact he h
theorem RowV.grown {w w' : World} {g : Nat} {t : TypeId} {cs : List Value} {row : Option Nat} (h : RowV w g t cs) (hg : w.grownBy w' row) (hne : some g ≠ row) : RowV w' g t cs := (hg.block g h.lt hne).trans h
theorem NodeAt.grown {w w' : World} {row : Option Nat} (hg : w.grownBy w' row) (hr : ∀ g cs, RowV w g 58 cs → some g ≠ row) : ∀ {t : ITr} {A : Option Addr}, NodeAt w t A → NodeAt w' t A
  | .nil, A, h => h
  | .node p x l r, A, ⟨b, L, R, e, hp, hrow, hl, hr2⟩ => ⟨b, L, R, e, hp, hrow.grown hg (hr _ _ hrow), NodeAt.grown hg hr hl, NodeAt.grown hg hr hr2⟩
theorem IxAt.grown {w w' : World} {row : Option Nat} {A : Option Addr} {L : List It} (h : IxAt w A L) (hg : w.grownBy w' row) (hr : ∀ g cs, RowV w g 58 cs → some g ≠ row) : IxAt w' A L := let ⟨t, h1, h2, h3⟩ := h; ⟨t, NodeAt.grown hg hr h1, h2, h3⟩
structure Nev (w0 : World) (os : List OpI) (va vk : Value) (av : List (Option Addr)) (kv : List Value) (w : World) : Prop where
  rowA : w.ownsRow w0.heap.size 27 1 va av.length (av.map .pointer)
  rowK : w.ownsRow w0.heap.size 31 1 vk kv.length kv
  ixs : ∀ j P, av[j]? = some P → IxAt w P (opsS (os.take j))
  its : ∀ j v, kv[j]? = some v → w.ownsRow w0.heap.size 34 4 v (opsS (os.take j)).length (itsC (opsS (os.take j)))
  bel : Below w0.heap.size w0 w
theorem Nev.keep {w0 w w' : World} {os : List OpI} {va vk : Value} {av : List (Option Addr)} {kv : List Value} (h : Nev w0 os va vk av kv w) (hb : Below w.heap.size w w') : Nev w0 os va vk av kv w' :=
  ⟨ownsRow_keep h.rowA hb, ownsRow_keep h.rowK hb, fun j P hj => (h.ixs j P hj).keep hb, fun j v hj => ownsRow_keep (h.its j v hj) hb, bstep h.bel hb⟩
theorem own_base {w : World} {b s n : Nat} {e : TypeId} {v : Value} {x : List Value} (h : w.ownsRow b e s v n x) : ∀ k, v.ownBlock = some k → b ≤ k := fun k hk => (h.lt k hk).1
theorem Nev.addA {w0 w w' : World} {os : List OpI} {va vk va' : Value} {av : List (Option Addr)} {kv : List Value} {P : Option Addr} (h : Nev w0 os va vk av kv w) (hown : w'.ownsRow w0.heap.size 27 1 va' (av.length + 1) (av.map .pointer ++ [.pointer P])) (hg : w.grownBy w' va.ownBlock) (hi : IxAt w P (opsS (os.take av.length))) : Nev w0 os va' vk (av ++ [P]) kv w' := by
  have hnd : ∀ g cs, RowV w g 58 cs → some g ≠ va.ownBlock := fun g cs hr => row_type_ne h.rowA hr (by decide)
  refine ⟨by rw [List.length_append, List.map_append]; exact hown, h.rowK.kept hg (own_type_ne h.rowK h.rowA (by decide)), fun j Q hj => ?_, fun j v hj => (h.its j v hj).kept hg (own_type_ne (h.its j v hj) h.rowA (by decide)), h.bel.grown hg h.bel.size (own_base h.rowA)⟩
  rw [List.getElem?_append] at hj
  split at hj
  · exact (h.ixs j Q hj).grown hg hnd
  · rename_i hn
    have hlt := (List.getElem?_eq_some_iff.1 hj).1
    simp at hlt
    have : j = av.length := by omega
    subst this
    rw [Nat.sub_self] at hj
    simp at hj
    subst hj
    exact hi.grown hg hnd
theorem Nev.addK {w0 w w' : World} {os : List OpI} {va vk vk' v : Value} {av : List (Option Addr)} {kv : List Value} (h : Nev w0 os va vk av kv w) (hown : w'.ownsRow w0.heap.size 31 1 vk' (kv.length + 1) (kv ++ [v])) (hg : w.grownBy w' vk.ownBlock) (hv : w.ownsRow w0.heap.size 34 4 v (opsS (os.take kv.length)).length (itsC (opsS (os.take kv.length)))) : Nev w0 os va vk' av (kv ++ [v]) w' := by
  have hnd : ∀ g cs, RowV w g 58 cs → some g ≠ vk.ownBlock := fun g cs hr => row_type_ne h.rowK hr (by decide)
  refine ⟨h.rowA.kept hg (own_type_ne h.rowA h.rowK (by decide)), by rw [List.length_append]; exact hown, fun j Q hj => (h.ixs j Q hj).grown hg hnd, fun j u hj => ?_, h.bel.grown hg h.bel.size (own_base h.rowK)⟩
  rw [List.getElem?_append] at hj
  split at hj
  · exact (h.its j u hj).kept hg (own_type_ne (h.its j u hj) h.rowK (by decide))
  · rename_i hn
    have hlt := (List.getElem?_eq_some_iff.1 hj).1
    simp at hlt
    have : j = kv.length := by omega
    subst this
    rw [Nat.sub_self] at hj
    simp at hj
    subst hj
    exact hv.kept hg (own_type_ne hv h.rowK (by decide))
theorem own_its {w : World} {b : Nat} {v : Value} {L : List It} (h : w.ownsRow b 34 4 v L.length (itsC L)) : ∃ A c, v = .slice A L.length c ∧ ItsRead w A L.length L := by
  obtain ⟨A, c, rfl⟩ : ∃ A c, v = .slice A L.length c := by
    rcases h.2 with ⟨hv, h0⟩ | ⟨g, cap, cur, hv, _⟩
    · exact ⟨none, 0, by rw [hv, h0]⟩
    · exact ⟨_, _, hv⟩
  exact ⟨A, c, rfl, its_own h rfl⟩
theorem infoIx : (Tryz.prog.info? 27).map (fun i => (i.zero, i.size, i.bytes)) = some (some (.agg #[.pointer none]), 1, 8) := by kernel_rfl
theorem infoSl : (Tryz.prog.info? 31).map (fun i => (i.zero, i.size, i.bytes)) = some (some (.slice none 0 0), 1, 24) := by kernel_rfl
end Go.Proofs.YtcjeddichookmaaGreatDoor
namespace Go.Proofs.YtcjeddichookmaaGreatDoor
open Go.RowKit Go.Sort
set_option linter.unusedVariables false
set_option linter.unusedSimpArgs false
set_option maxRecDepth 100000
theorem itsC_cells (L : List It) : ∀ u ∈ itsC L, u.oneCell' = true := by
  intro u hu
  obtain ⟨x, _, h⟩ := List.mem_flatMap.1 hu
  unfold It.vals at h
  simp only [List.mem_cons, List.not_mem_nil, or_false] at h
  rcases h with rfl | rfl | rfl | rfl <;> rfl
set_option maxHeartbeats 8000000 in
theorem lawNever15 (A : Option Addr) (n c : Nat) (os : List OpI) (w : World) (hA : OpsRead w A n os) (hn : n ≤ 9223372036854775807) (hE : Env w) (hK : Ks w) : Calls Tryz.prog 3 #[.slice A n c] w (Ret w (.bool true)) := by
  have hfw := fun W (hb : Below w.heap.size w W) => few15_any A n c os W (hA.keep hb) hn
  have hsn := fun W (hb : Below w.heap.size w W) => sanity15_any W (Env.keep hE hb) (hK.keep hb)
  have hnew := fun W => new_any W
  have hol := hA.len
  have HFW := Lib.hid hfw; have HSN := Lib.hid hsn; have HNW := Lib.hid hnew; have HA := Lib.hid hA; have HE := Lib.hid hE; have HK := Lib.hid hK
  clear hfw hsn hnew hA hE hK
  cases hf : fewO os
  · rw [hf] at HFW
    clear HA HNW
    go_enter Tryz.func3, Tryz.ntmps3
    go_wp2_with (first | (go_at_call 4; refine (HFW.out _ belB).mono ?_; rintro e wf ⟨rfl, hbf⟩) | (go_at_call 5; refine (HSN.out _ belB).mono ?_; rintro e ws ⟨rfl, hbs⟩))
    go_ret
    exact ⟨rfl, belB⟩
  rw [hf] at HFW
  obtain ⟨hn40, hsm⟩ := few_small hf
  have hgd : ∀ k, k ≤ n → LGood k (opsS (os.take k)) := fun k hk => ops_good os k (by omega)
  have hn2 : n ≤ 40 := by omega
  obtain ⟨i0, hi0, hz0, hz1, hz2⟩ := info_parts infoItem
  obtain ⟨i1, hi1, hy0, hy1, hy2⟩ := info_parts infoIx
  obtain ⟨i2, hi2, hx0, hx1, hx2⟩ := info_parts infoSl
  have I0 : Hid ((Tryz.prog.info? 34 = some i0) ∧ i0.zero = some (.agg #[.string ⟨#[]⟩, .string ⟨#[]⟩, .int .i64 0, .int .i64 0]) ∧ i0.size = 4 ∧ i0.bytes = 48) := Lib.hid ⟨hi0, hz0, hz1, hz2⟩
  have I1 : Hid ((Tryz.prog.info? 27 = some i1) ∧ i1.zero = some (.agg #[.pointer none]) ∧ i1.size = 1 ∧ i1.bytes = 8) := Lib.hid ⟨hi1, hy0, hy1, hy2⟩
  have I2 : Hid ((Tryz.prog.info? 31 = some i2) ∧ i2.zero = some (.slice none 0 0) ∧ i2.size = 1 ∧ i2.bytes = 24) := Lib.hid ⟨hi2, hx0, hx1, hx2⟩
  clear hi0 hz0 hz1 hz2 hi1 hy0 hy1 hy2 hi2 hx0 hx1 hx2
  have HSM := Lib.hid hsm; have HGD := Lib.hid hgd
  clear hsm hgd hf
  go_enter Tryz.func3, Tryz.ntmps3
  go_upto_region 4 with (first | (go_at_call 4; refine (HFW.out _ belB).mono ?_; rintro e wf ⟨rfl, hbf⟩) | (go_at_call 6; refine (HNW.out _).mono ?_; rintro e w1 ⟨rfl, hb1⟩))
  have hN0 : Nev w os (.slice (some ⟨w1.heap.size, 0, none⟩) 1 1) (.slice none 0 0) [none] [] (w1.alloc (.cells #[.pointer none] 27)) := by
    have hbw : Below w.heap.size w w1 := belB
    refine ⟨⟨rfl, .inr ⟨w1.heap.size, 1, #[.pointer none], rfl, hbw.size, World.alloc_heap_new _ _, Nat.le_refl _, by unfold maxLen; omega, rfl, rfl⟩⟩, World.ownsRow_nil _ _ _ _, fun j P hj => ?_, fun j v hj => by simp at hj, balloc hbw _⟩
    cases j with
    | zero =>
      simp at hj
      subst hj
      exact IxAt.nil_ _
    | succ j => simp at hj
  generalize hw2 : w1.alloc (.cells #[.pointer none] 27) = w2 at *
  generalize w1.heap.size = g1 at *
  have HN0 := Lib.hid hN0
  clear hw2 hb1 hN0 hbf HFW HNW
  go_wp2
  go_loopw [3, 4, 5] (fun va vk vi wr => ∃ (i ga ca ck : Nat) (K : Option Addr) (av : List (Option Addr)) (kv : List Value), (vi = .int .i64 i ∧ va = .slice (some ⟨ga, 0, none⟩) (i + 1) ca ∧ vk = .slice K i ck ∧ i ≤ n) ∧ Hid (av.length = i + 1 ∧ kv.length = i) ∧ Hid (Nev w os (.slice (some ⟨ga, 0, none⟩) (i + 1) ca) (.slice K i ck) av kv wr)) (fun _ _ vi _ => n + 1 - (intOf vi).toNat)
  case atStart => exact ⟨0, g1, 1, 0, none, [none], [], ⟨rfl, rfl, rfl, Nat.zero_le _⟩, Lib.hid ⟨rfl, rfl⟩, HN0⟩
  case round =>
    clear HN0
    obtain ⟨i, ga, ca, ck, K, av, kv, ⟨rfl, rfl, rfl, hin⟩, HL, HN⟩ := hrel
    have hi0 : (0 : Int) ≤ (i : Int) := by omega
    have hi1 : (i : Int) < ((i : Int) + 1) := by omega
    have hi2 : (i : Int) ≤ (n : Int) := by omega
    obtain ⟨P, hP⟩ : ∃ P, av[i]? = some P := ⟨_, List.getElem?_eq_getElem (by have := HL.out.1; omega)⟩
    have c0 : wr.cell? ⟨ga, i, none⟩ = some (.pointer P) := by
      have h := HN.out.rowA
      rw [HL.out.1] at h
      rw [h.cellAt i (by omega), List.getElem?_map, hP]
      rfl
    have hI := HN.out.ixs i P hP
    have HI := Lib.hid hI; have HP := Lib.hid hP
    clear hI hP
    go_upto_region 9 with fail
    have hX := RowV.new wr 27 [.pointer P]
    have hN1 := HN.out.keep (balloc (Below.refl _ _) (.cells #[.pointer P] 27))
    have hI1 := HI.out.keep (balloc (Below.refl _ _) (.cells #[.pointer P] 27))
    generalize hwx : wr.alloc (.cells #[.pointer P] 27) = wx at *
    generalize wr.heap.size = gx at *
    have HN1 := Lib.hid hN1; have HX := Lib.hid hX; have HI1 := Lib.hid hI1
    have hg := HGD.out i hin
    have cf := fun W (h : IxAt W P (opsS (os.take i))) => ixFromO_any P (opsS (os.take i)) ⟨#[]⟩ 100 W h hg.up (by have := hg.len; omega)
    rw [take_100 (by have := hg.len; omega)] at cf
    have hll : (opsS (os.take i)).length ≤ 40 := by have := hg.len; omega
    have CF := Lib.hid cf
    have x0 := hX.cell (k := 0) rfl
    have hgx := hX.lt
    have hbx := hN1.bel.size
    clear cf hg hN1 hX hI1 hwx HN HI c0
    go_cut [4] (fun s4 wy => ∃ (K' : Option Addr) (ck' : Nat) (v : Value), s4 = .slice K' (i + 1) ck' ∧ Hid (Nev w os (.slice (some ⟨ga, 0, none⟩) (i + 1) ca) (.slice K' (i + 1) ck') av (kv ++ [v]) wy) ∧ Hid (RowV wy gx 27 [.pointer P]))
    case first =>
      have hmade := World.ownsRow_made (base := w.heap.size) (e := 34) (size := 4) wx #[] 0 hbx (by unfold maxLen; omega) rfl
      have HMD := Lib.hid hmade
      clear hmade
      go_wp2_with (first | (go_at_call 7; refine (CF.out _ (HI1.out.keep (balloc (Below.refl _ _) _))).mono ?_; clear CF; rintro e w5 ⟨v5, rfl, hv5, hb5⟩; have hown0 := ownsRow_keep HMD.out hb5; have hq5 : Below wx.heap.size wx w5 := bstep (balloc (Below.refl _ _) _) hb5; have hN5 := HN1.out.keep hq5; have hX5 := HX.out.keep hq5; have hs5 := hN5.bel.size; have hrk5 : w5.ownsRow w.heap.size 31 1 (.slice K i ck) i kv := (by have h := hN5.rowK; rw [HL.out.2] at h; exact h); rcases hv5.2 with ⟨rfl, h0⟩ | ⟨g5, cap5, cur5, rfl, _, _, _⟩) | (at_builtin; refine wpList_append_own _ rfl _ _ 31 rfl w.heap.size 34 i0 (.agg #[.string ⟨#[]⟩, .string ⟨#[]⟩, .int .i64 0, .int .i64 0]) 4 48 Tryz.underlying31 I0.out.1 I0.out.2.1 I0.out.2.2.1 I0.out.2.2.2 rfl (by decide) _ _ _ rfl hown0 ⟨g5, 0, none⟩ (opsS (os.take i)).length cap5 (itsC (opsS (os.take i))) rfl (itsC_len _) (hv5.cells rfl) (itsC_cells _) (by unfold maxLen; omega) (by omega) (by omega) ?_; intro v6 w6 hown6 hgrow6 _; rw [Nat.zero_add, List.nil_append] at hown6; have hq6 : Below wx.heap.size wx w6 := hq5.grown hgrow6 hq5.size (fun r e => by cases e; exact Nat.le_refl _); have hN6 := HN1.out.keep hq6; have hX6 := HX.out.keep hq6; have hs6 := hN6.bel.size; have hrk : w6.ownsRow w.heap.size 31 1 (.slice K i ck) i kv := (by have h := hN6.rowK; rw [HL.out.2] at h; exact h); obtain ⟨A6, c6, rfl, r6⟩ := own_its hown6) | (at_builtin; refine wpList_append_own _ rfl _ _ 30 rfl w.heap.size 31 i2 (.slice none 0 0) 1 24 Tryz.underlying30 I2.out.1 I2.out.2.1 I2.out.2.2.1 I2.out.2.2.2 rfl (by decide) _ _ _ rfl (hrk.alloc _) ⟨w6.heap.size, 0, none⟩ 1 1 [.slice A6 (opsS (os.take i)).length c6] rfl rfl (World.news_of_block (cs := #[.slice A6 (opsS (os.take i)).length c6]) (t := 31) (fr := (0, 0)) (World.alloc_heap_new w6 _)) (by simp [Value.oneCell']) (by unfold maxLen; omega) (by omega) (by rw [World.size_alloc]; omega) ?_; intro v8 w8 hown8 hgrow8 _; obtain ⟨g8, cap8, rfl⟩ := ownsRow_succ hown8) | (at_builtin; refine wpList_append_own _ rfl _ _ 30 rfl w.heap.size 31 i2 (.slice none 0 0) 1 24 Tryz.underlying30 I2.out.1 I2.out.2.1 I2.out.2.2.1 I2.out.2.2.2 rfl (by decide) _ _ _ rfl (hrk5.alloc _) ⟨w5.heap.size, 0, none⟩ 1 1 [.slice (some ⟨wx.heap.size, 0, none⟩) 0 0] rfl rfl (World.news_of_block (cs := #[.slice (some ⟨wx.heap.size, 0, none⟩) 0 0]) (t := 31) (fr := (0, 0)) (World.alloc_heap_new w5 _)) (by simp [Value.oneCell']) (by unfold maxLen; omega) (by omega) (by rw [World.size_alloc]; omega) ?_; intro v8 w8 hown8 hgrow8 _; obtain ⟨g8, cap8, rfl⟩ := ownsRow_succ hown8))
      all_goals go_meet
      · exact ⟨some ⟨g8, 0, none⟩, cap8, (.slice (some ⟨wx.heap.size, 0, none⟩) 0 0), rfl, Lib.hid (Nev.addK (hN5.keep (balloc (Below.refl _ _) _)) (by rw [HL.out.2]; exact hown8) hgrow8 (by rw [HL.out.2, List.eq_nil_of_length_eq_zero h0]; exact hown0.alloc _)), Lib.hid ((hX5.alloc (.cells #[.slice (some ⟨wx.heap.size, 0, none⟩) 0 0] 31)).grown hgrow8 (row_type_ne (hrk5.alloc (.cells #[.slice (some ⟨wx.heap.size, 0, none⟩) 0 0] 31)) (hX5.alloc (.cells #[.slice (some ⟨wx.heap.size, 0, none⟩) 0 0] 31)) (by decide)))⟩
      · exact ⟨some ⟨g8, 0, none⟩, cap8, (.slice A6 (opsS (os.take i)).length c6), rfl, Lib.hid (Nev.addK (hN6.keep (balloc (Below.refl _ _) _)) (by rw [HL.out.2]; exact hown8) hgrow8 (by rw [HL.out.2]; exact hown6.alloc _)), Lib.hid ((hX6.alloc (.cells #[.slice A6 (opsS (os.take i)).length c6] 31)).grown hgrow8 (row_type_ne (hrk.alloc (.cells #[.slice A6 (opsS (os.take i)).length c6] 31)) (hX6.alloc (.cells #[.slice A6 (opsS (os.take i)).length c6] 31)) (by decide)))⟩
    case rest =>
      obtain ⟨K', ck', v, rfl, HN2, HX2⟩ := hcut
      obtain ⟨wk, rfl⟩ : ∃ x, x = wc := ⟨_, rfl⟩
      clear HN1 HX HI1 CF x0 hgx hbx
      by_cases hlt : i < n
      · have hieq : ((i : Int) == (n : Int)) = false := by simp; omega
        have hilt : (i : Int) < (n : Int) := by omega
        obtain ⟨x, hx⟩ : ∃ x, os[i]? = some x := ⟨_, List.getElem?_eq_getElem (by omega)⟩
        obtain ⟨b, o, rfl, c0, c1, c2', c3, c4⟩ := (HA.out.keep HN2.out.bel).cells hx
        have hot := ops_take hx
        have hsx := HSM.out x (List.mem_of_getElem? hx)
        have hg := HGD.out i hin
        have hi3 := HN2.out.ixs i P HP.out
        have HI2 := Lib.hid hi3; have HBK := Lib.hid HN2.out.bel
        have x5 := HX2.out.cell (k := 0) rfl
        have hgup := Lib.hid hg.up
        clear hx hi3
        cases hdel : x.del
        · have pp := fun W (h : IxAt W P (opsS (os.take i))) (hb : Below w.heap.size w W) => ixPut_any P _ x.it W h hgup.out (by omega) (by omega) (by omega) (Env.keep HE.out hb) (HK.out.keep hb)
          unfold IxPutP at pp
          have hop : (ixPutS (opsS (os.take i)) x.it).1 = opsS (os.take (i + 1)) := by rw [hot]; unfold opS; rw [hdel]; rfl
          rw [hop] at pp
          have PP := Lib.hid pp
          have d2 : wk.cell? ⟨b, o + i * 5 + 1 + 1, none⟩ = some (.string x.it.t) := c2'
          have d3 : wk.cell? ⟨b, o + i * 5 + 1 + 2, none⟩ = some (.int .i64 x.it.z) := c3
          have d4 : wk.cell? ⟨b, o + i * 5 + 1 + 3, none⟩ = some (.int .i64 x.it.r) := c4
          clear pp hop hot hsx hg c2' c3 c4
          go_upto_region 14 with fail
          go_cut [9, 10] (fun s8 s9 wx => ∃ (g' : Nat) (Q : Option Addr), s8 = .pointer (some ⟨g', 0, none⟩) ∧ s9 = .int .i64 (ixPutS (opsS (os.take i)) x.it).2 ∧ wk.heap.size ≤ g' ∧ RowV wx g' 27 [.pointer Q] ∧ IxAt wx Q (opsS (os.take (i + 1))) ∧ Below wk.heap.size wk wx)
          case first =>
            go_region_held3 (fun w' => w'.cell? ⟨gx, 0, none⟩ = some (.pointer P) ∧ w'.cell? ⟨b, o + i * 5 + 1, none⟩ = some (.string x.it.k) ∧ w'.cell? ⟨b, o + i * 5 + 1 + 1, none⟩ = some (.string x.it.t) ∧ w'.cell? ⟨b, o + i * 5 + 1 + 2, none⟩ = some (.int .i64 x.it.z) ∧ w'.cell? ⟨b, o + i * 5 + 1 + 3, none⟩ = some (.int .i64 x.it.r) ∧ Below wk.heap.size wk w')
              (first | (go_split_ands; refine (fun (hB : Below wk.heap.size wk _) => (⟨cell_keep hB x5, cell_keep hB c1, cell_keep hB d2, cell_keep hB d3, cell_keep hB d4, hB⟩ : _ ∧ _ ∧ _ ∧ _ ∧ _ ∧ _)) ?_; (repeat (first | exact .refl _ _ | assumption | refine .drew ?_ | refine balloc ?_ _ | refine bdrewN ?_ _ | refine .setCell ?_ (by simp <;> omega) _ | refine bstep ?_ (by assumption)))) | (refine (fun (hB : Below wk.heap.size wk _) => (⟨cell_keep hB x5, cell_keep hB c1, cell_keep hB d2, cell_keep hB d3, cell_keep hB d4, hB⟩ : _ ∧ _ ∧ _ ∧ _ ∧ _ ∧ _)) ?_; (repeat (first | exact .refl _ _ | assumption | refine .drew ?_ | refine balloc ?_ _ | refine bdrewN ?_ _ | refine .setCell ?_ (by simp <;> omega) _ | refine bstep ?_ (by assumption)))))
              (first | (go_at_call 9; go_split_ands; refine (PP.out _ (HI2.out.keep ‹_›) (bstep HBK.out ‹_›)).mono ?_; rintro e w3 ⟨Q, rfl, hix, hb3⟩; first | (have hn0 : RowV w3 wk.heap.size 27 [.pointer none] := RowV.keep (w := (wk.alloc (.cells #[.pointer none] 27)).drew) (RowV.new wk 27 [.pointer none]) hb3; have n0 := hn0.cell (k := 0) rfl; have n1 := hn0.free 0) | skip))
            all_goals go_wp2_with fail
            all_goals go_meet
            · exact ⟨_, Q, rfl, rfl, by have := hb3.size; exact this, RowV.new w3 27 [.pointer Q], hix.keep (balloc (Below.refl _ _) _), balloc (bstep (Below.drew (Below.refl _ _)) hb3) _⟩
            · exact ⟨_, Q, rfl, rfl, Nat.le_refl _, hn0.set_ 0 _, hix.far hn0 (by decide) 0 _, (bstep (Below.drew (balloc (Below.refl _ _) _)) hb3).setCell (by simp) _⟩
          case rest =>
            obtain ⟨g', Q, rfl, rfl, hgg, hgR, hix, hbx⟩ := hcut
            obtain ⟨wd, rfl⟩ : ∃ x, x = wc := ⟨_, rfl⟩
            have hNd := HN2.out.keep hbx
            have hsd := hNd.bel.size
            have hra : wd.ownsRow w.heap.size 27 1 (.slice (some ⟨ga, 0, none⟩) (i + 1) ca) (i + 1) (av.map .pointer) := by have h := hNd.rowA; rw [HL.out.1] at h; exact h
            have HNd := Lib.hid hNd; have HIX := Lib.hid hix
            have yg := hgR.cell (k := 0) rfl
            clear hNd hix hgR hbx hgg x5 c1
            go_wp2_with (first | (at_builtin; refine wpList_append_own _ rfl _ _ 29 rfl w.heap.size 27 i1 (.agg #[.pointer none]) 1 8 Tryz.underlying29 I1.out.1 I1.out.2.1 I1.out.2.2.1 I1.out.2.2.2 rfl (by decide) _ _ _ rfl (hra.alloc _) ⟨wd.heap.size, 0, none⟩ 1 1 [.pointer Q] rfl rfl (World.news_of_block (cs := #[.pointer Q]) (t := 27) (fr := (0, 0)) (World.alloc_heap_new wd _)) (by simp [Value.oneCell']) (by unfold maxLen; omega) (by omega) (by rw [World.size_alloc]; omega) ?_; intro v9 w9 hown9 hgrow9 _; obtain ⟨g9, cap9, rfl⟩ := ownsRow_succ hown9))
            exact ⟨⟨i + 1, g9, cap9, ck', K', av ++ [Q], kv ++ [v], ⟨by go_num, rfl, rfl, by omega⟩, Lib.hid ⟨by rw [List.length_append, HL.out.1]; rfl, by rw [List.length_append, HL.out.2]; rfl⟩, Lib.hid (Nev.addA (HNd.out.keep (balloc (Below.refl _ _) _)) (by rw [HL.out.1]; exact hown9) hgrow9 (by rw [HL.out.1]; exact HIX.out.keep (balloc (Below.refl _ _) _)))⟩, by simp [intOf]; omega⟩
        · have dd := fun W (h : IxAt W P (opsS (os.take i))) => ixDelete_any P _ x.it.k W h hgup.out
          unfold DelPost at dd
          have hop : ixDel (opsS (os.take i)) x.it.k = opsS (os.take (i + 1)) := by rw [hot]; unfold opS; rw [if_pos hdel]
          rw [hop] at dd
          have DD := Lib.hid dd
          clear dd hop hot hsx hg c2' c3 c4
          go_upto_region 12 with fail
          go_cut [7, 8] (fun s8 s9 wx => ∃ (g' : Nat) (Q : Option Addr), s8 = .pointer (some ⟨g', 0, none⟩) ∧ s9 = .bool (ixGet (opsS (os.take i)) x.it.k).isSome ∧ wk.heap.size ≤ g' ∧ RowV wx g' 27 [.pointer Q] ∧ IxAt wx Q (opsS (os.take (i + 1))) ∧ Below wk.heap.size wk wx)
          case first =>
            go_region_held3 (fun w' => w'.cell? ⟨gx, 0, none⟩ = some (.pointer P) ∧ w'.cell? ⟨b, o + i * 5 + 1, none⟩ = some (.string x.it.k) ∧ Below wk.heap.size wk w')
              (first | (go_split_ands; refine (fun (hB : Below wk.heap.size wk _) => (⟨cell_keep hB x5, cell_keep hB c1, hB⟩ : _ ∧ _ ∧ _)) ?_; (repeat (first | exact .refl _ _ | assumption | refine .drew ?_ | refine balloc ?_ _ | refine bdrewN ?_ _ | refine .setCell ?_ (by simp <;> omega) _ | refine bstep ?_ (by assumption)))) | (refine (fun (hB : Below wk.heap.size wk _) => (⟨cell_keep hB x5, cell_keep hB c1, hB⟩ : _ ∧ _ ∧ _)) ?_; (repeat (first | exact .refl _ _ | assumption | refine .drew ?_ | refine balloc ?_ _ | refine bdrewN ?_ _ | refine .setCell ?_ (by simp <;> omega) _ | refine bstep ?_ (by assumption)))))
              (first | (go_at_call 8; go_split_ands; refine (DD.out _ (HI2.out.keep ‹_›)).mono ?_; rintro e w3 ⟨Q, rfl, hix, hb3⟩; first | (have hn0 : RowV w3 wk.heap.size 27 [.pointer none] := RowV.keep (w := (wk.alloc (.cells #[.pointer none] 27)).drew) (RowV.new wk 27 [.pointer none]) hb3; have n0 := hn0.cell (k := 0) rfl; have n1 := hn0.free 0) | skip))
            all_goals go_wp2_with fail
            all_goals go_meet
            · exact ⟨_, Q, rfl, rfl, by have := hb3.size; exact this, RowV.new w3 27 [.pointer Q], hix.keep (balloc (Below.refl _ _) _), balloc (bstep (Below.drew (Below.refl _ _)) hb3) _⟩
            · exact ⟨_, Q, rfl, rfl, Nat.le_refl _, hn0.set_ 0 _, hix.far hn0 (by decide) 0 _, (bstep (Below.drew (balloc (Below.refl _ _) _)) hb3).setCell (by simp) _⟩
          case rest =>
            obtain ⟨g', Q, rfl, rfl, hgg, hgR, hix, hbx⟩ := hcut
            obtain ⟨wd, rfl⟩ : ∃ x, x = wc := ⟨_, rfl⟩
            have hNd := HN2.out.keep hbx
            have hsd := hNd.bel.size
            have hra : wd.ownsRow w.heap.size 27 1 (.slice (some ⟨ga, 0, none⟩) (i + 1) ca) (i + 1) (av.map .pointer) := by have h := hNd.rowA; rw [HL.out.1] at h; exact h
            have HNd := Lib.hid hNd; have HIX := Lib.hid hix
            have yg := hgR.cell (k := 0) rfl
            clear hNd hix hgR hbx hgg x5 c1
            go_wp2_with (first | (at_builtin; refine wpList_append_own _ rfl _ _ 29 rfl w.heap.size 27 i1 (.agg #[.pointer none]) 1 8 Tryz.underlying29 I1.out.1 I1.out.2.1 I1.out.2.2.1 I1.out.2.2.2 rfl (by decide) _ _ _ rfl (hra.alloc _) ⟨wd.heap.size, 0, none⟩ 1 1 [.pointer Q] rfl rfl (World.news_of_block (cs := #[.pointer Q]) (t := 27) (fr := (0, 0)) (World.alloc_heap_new wd _)) (by simp [Value.oneCell']) (by unfold maxLen; omega) (by omega) (by rw [World.size_alloc]; omega) ?_; intro v9 w9 hown9 hgrow9 _; obtain ⟨g9, cap9, rfl⟩ := ownsRow_succ hown9))
            exact ⟨⟨i + 1, g9, cap9, ck', K', av ++ [Q], kv ++ [v], ⟨by go_num, rfl, rfl, by omega⟩, Lib.hid ⟨by rw [List.length_append, HL.out.1]; rfl, by rw [List.length_append, HL.out.2]; rfl⟩, Lib.hid (Nev.addA (HNd.out.keep (balloc (Below.refl _ _) _)) (by rw [HL.out.1]; exact hown9) hgrow9 (by rw [HL.out.1]; exact HIX.out.keep (balloc (Below.refl _ _) _)))⟩, by simp [intOf]; omega⟩
      · obtain rfl : i = n := by omega
        have hrk : wk.ownsRow w.heap.size 31 1 (.slice K' (i + 1) ck') (i + 1) (kv ++ [v]) := by have h := HN2.out.rowK; rw [List.length_append, HL.out.2] at h; exact h
        have hra : wk.ownsRow w.heap.size 27 1 (.slice (some ⟨ga, 0, none⟩) (i + 1) ca) (i + 1) (av.map .pointer) := by have h := HN2.out.rowA; rw [HL.out.1] at h; exact h
        obtain ⟨gk, cpk, hk⟩ := ownsRow_succ hrk
        injection hk with hk1 _ hk2
        subst hk1
        subst hk2
        have HRK := Lib.hid hrk; have HRA := Lib.hid hra; have BK := Lib.hid HN2.out.bel
        clear hrk hra HX2 HP HA HSM I0 I1 I2 HK HE
        go_wp2
        go_loopw [11] (fun vj wj => ∃ j : Nat, vj = .int .i64 j ∧ j ≤ i + 1 ∧ Below wk.heap.size wk wj) (fun vj _ => i + 1 - (intOf vj).toNat)
        case atStart => exact ⟨0, rfl, Nat.zero_le _, Below.refl _ _⟩
        case round =>
          obtain ⟨j, rfl, hj, hbj⟩ := hrel
          obtain ⟨wj, rfl⟩ : ∃ x, x = wr := ⟨_, rfl⟩
          by_cases hjl : j < i + 1
          · have hj0 : (0 : Int) ≤ (j : Int) := by omega
            have hj1 : (j : Int) < ((i : Int) + 1) := by omega
            obtain ⟨Q, hQ⟩ : ∃ Q, av[j]? = some Q := ⟨_, List.getElem?_eq_getElem (by have := HL.out.1; omega)⟩
            obtain ⟨u, hu⟩ : ∃ u, (kv ++ [v])[j]? = some u := ⟨_, List.getElem?_eq_getElem (by have := HL.out.2; rw [List.length_append]; simp; omega)⟩
            have hra := ownsRow_keep HRA.out hbj
            have hrk := ownsRow_keep HRK.out hbj
            have a0 : wj.cell? ⟨ga, j, none⟩ = some (.pointer Q) := by rw [hra.cellAt j (by omega), List.getElem?_map, hQ]; rfl
            have k0 : wj.cell? ⟨gk, j, none⟩ = some u := by rw [hrk.cellAt j (by omega), hu]
            obtain ⟨A6, c6, rfl, r6⟩ := own_its (ownsRow_keep (HN2.out.its j u hu) hbj)
            have hI := (HN2.out.ixs j Q hQ).keep hbj
            have hg := HGD.out j (by omega)
            clear hu
            generalize hL : opsS (os.take j) = L at *
            have hgl := hg.len
            have hgu := hg.up
            have hll : L.length ≤ 40 := by omega
            have cf := fun W (h : IxAt W Q L) => ixFrom_any Q L ⟨#[]⟩ 100 W h hgu (by omega)
            rw [take_100 hll] at cf
            have cl := fun W (h : IxAt W Q L) => ixLen_any Q L W h
            have cz := fun W (h : IxAt W Q L) => ixSize_any Q L W h
            have hzz := fun x (hx : x ∈ L) => valid_z (hg.ok x hx)
            obtain ⟨S, hS⟩ : ∃ S, S = ixSize L := ⟨_, rfl⟩
            rw [← hS] at cz
            have CF := Lib.hid cf; have CL := Lib.hid cl; have CZ := Lib.hid cz; have HZ := Lib.hid hzz; have HS := Lib.hid hS; have HU := Lib.hid hgu; have HI := Lib.hid hI; have R6 := Lib.hid r6
            clear cf cl cz hzz hS hgu hI r6 hg hL hra hrk hQ
            go_upto_region 20 with (go_at_call 7; refine (CF.out _ HI.out).mono ?_; clear CF; rintro e w5 ⟨A5, c5, rfl, r5, hb5⟩)
            have a5 := cell_keep hb5 a0
            have k5 := cell_keep hb5 k0
            have I5 := Lib.hid (HI.out.keep hb5); have K6 := Lib.hid (R6.out.keep hb5); have R5 := Lib.hid r5
            clear r5 a0 k0 HI R6
            go_wp2
            go_loopw [13, 14] (fun vs vm w3 => ∃ (m : Nat) (q : Int), vm = .int .i64 m ∧ vs = .int .i64 q ∧ m ≤ L.length ∧ Hid (q = ixSize (L.take m)) ∧ Below w5.heap.size w5 w3) (fun _ vm _ => L.length - (intOf vm).toNat)
            case atStart => exact ⟨0, 0, rfl, rfl, Nat.zero_le _, Lib.hid (by simp [ixSize]), Below.refl _ _⟩
            case round =>
              obtain ⟨m, q, rfl, rfl, hm, HQ, hb3⟩ := hrel
              obtain ⟨w3, rfl⟩ : ∃ x, x = wr := ⟨_, rfl⟩
              by_cases hml : m < L.length
              · obtain ⟨x, hx⟩ : ∃ x, L[m]? = some x := ⟨_, List.getElem?_eq_getElem hml⟩
                obtain ⟨b, o, rfl, c0, c1, c2, c3⟩ := (R5.out.keep hb3).cells hx
                have hm0 : (0 : Int) ≤ (m : Int) := by omega
                have hm1 : (m : Int) < (L.length : Int) := by omega
                have hb1 := size_bound (L.take m) (fun y hy => HZ.out y (List.mem_of_mem_take hy))
                have hb2 : (L.take m).length ≤ 40 := by rw [List.length_take]; omega
                have hbz := HZ.out x (List.mem_of_getElem? hx)
                have hq := HQ.out
                have hv : q + x.z = ixSize (L.take (m + 1)) := by rw [take_at hx, size_snoc, hq]
                have hw : wrap64 (q + x.z) = q + x.z := IntWalk.wrap64_in _ (by omega)
                have HV := Lib.hid hv; have HW := Lib.hid hw; have HX := Lib.hid hx
                clear hv hb1 hb2 hbz hq hx HQ
                go_upto_region 25 with fail
                clear hw c1 c2 c3
                have r0 := cell_regrown c0
                by_cases hz0 : m = 0
                · have hgt : decide ((0 : Int) < (m : Int)) = false := by simp; omega
                  have hgt2 : ¬ (0 : Int) < (m : Int) := by omega
                  have hgt3 : ¬ 0 < m := by omega
                  clear hz0 c0
                  refine wp_region_quiet_below (by kernel_rfl) (by kernel_rfl) ?_; (repeat (any_goals (first | go_big_quiet_step (fail) | quiet_step (fail)))); refine wpQuiet_nil ?_; intro _ hwq; obtain ⟨⟨dq, osq⟩, hwq⟩ := hwq; subst hwq; have hbq := below_regrown (w3) dq osq; generalize grow (redrawn (w3) dq) osq = wq at *
                  clear r0
                  go_wp2
                  exact ⟨⟨m + 1, q + x.z, by go_num, by rw [HW.out], by omega, HV, bstep hb3 hbq⟩, by simp [intOf]; omega⟩
                · have hgt : decide ((0 : Int) < (m : Int)) = true := by simp; omega
                  have hgt2 : (0 : Int) < (m : Int) := by omega
                  have hgt3 : 0 < m := by omega
                  obtain ⟨m', hmm⟩ : ∃ m', m' = m - 1 := ⟨_, rfl⟩
                  have hw3 : IntKind.i64.wrap ((m : Int) - 1) = (m' : Int) := by rw [IntWalk.i64_in _ (by omega)]; omega
                  have hw4 : wrap64 ((m : Int) - 1) = (m' : Int) := by rw [IntWalk.wrap64_in _ (by omega)]; omega
                  have hp0 : (0 : Int) ≤ (m' : Int) := by omega
                  have hp1 : (m' : Int) < (L.length : Int) := by omega
                  obtain ⟨y, hy⟩ : ∃ y, L[m']? = some y := ⟨_, List.getElem?_eq_getElem (by omega)⟩
                  obtain ⟨e0, e1, e2, e3⟩ := (R5.out.keep hb3).cells_at hy
                  have r1 := cell_regrown e0
                  have hlt2 : ltB y.k x.k = true := by
                    have h := List.pairwise_iff_getElem.1 HU.out m' m (by omega) hml (by omega)
                    rw [(List.getElem?_eq_some_iff.1 hy).2, (List.getElem?_eq_some_iff.1 HX.out).2] at h
                    exact h
                  have hle : (Op.bytesLess x.k.toList y.k.toList || x.k.toList == y.k.toList) = false := by rw [less_leB, leB_not, hlt2]; rfl
                  clear hz0 hmm hy e0 e1 e2 e3 c0 hlt2
                  refine wp_region_quiet_below (by kernel_rfl) (by kernel_rfl) ?_; (repeat (any_goals (first | go_big_quiet_step (fail) | quiet_step (fail)))); refine wpQuiet_nil ?_; intro _ hwq; obtain ⟨⟨dq, osq⟩, hwq⟩ := hwq; subst hwq; have hbq := below_regrown (w3) dq osq; generalize grow (redrawn (w3) dq) osq = wq at *
                  clear r0 r1
                  go_wp2
                  exact ⟨⟨m + 1, q + x.z, by go_num, by rw [HW.out], by omega, HV, bstep hb3 hbq⟩, by simp [intOf]; omega⟩
              · obtain rfl : m = L.length := by omega
                obtain rfl : q = S := by rw [HQ.out, HS.out, List.take_length]
                have a3 := cell_keep hb3 a5
                have k3 := cell_keep hb3 k5
                clear a5 k5 HQ
                go_wp2_with (first | (go_at_call 10; refine (rSame15_eq _ _ _ _ _ _ _ (R5.out.keep hb3) (K6.out.keep hb3) (by omega)).mono ?_; clear R5 K6; rintro e w6 ⟨rfl, hb6⟩; have a6 := cell_keep hb6 a3; have hq6 := bstep hb3 hb6) | (go_at_call 11; refine (CL.out _ (I5.out.keep hq6)).mono ?_; clear CL; rintro e w7 ⟨rfl, hb7⟩; have hq7 := bstep hq6 hb7; have a7 := cell_keep hb7 a6) | (go_at_call 12; refine (CZ.out _ (I5.out.keep hq7)).mono ?_; clear CZ; rintro e w8 ⟨rfl, hb8⟩; have hq8 := bstep hq7 hb8))
                exact ⟨⟨j + 1, by go_num, by omega, bstep (bstep hbj hb5) hq8⟩, by simp [intOf]; omega⟩
          · obtain rfl : j = i + 1 := by omega
            have hbw := bstep BK.out hbj
            clear HRA HRK HN2 HL HGD
            go_wp2_with (go_at_call 5; refine (HSN.out _ hbw).mono ?_; rintro e ws ⟨rfl, hbs⟩)
            go_ret
            exact ⟨rfl, bstep hbw hbs⟩
end Go.Proofs.YtcjeddichookmaaGreatDoor
namespace Go.Proofs.YtcjeddichookmaaGreatDoor
open Go.RowKit Go.Sort
set_option linter.unusedVariables false
set_option linter.unusedSimpArgs false
set_option maxRecDepth 100000
theorem cellsOp : Tryz.prog.cellsOf 36 = 5 := by kernel_rfl
theorem list_of {α : Type} {p : Nat → α → Prop} : ∀ n : Nat, (∀ i, i < n → ∃ x, p i x) → ∃ l : List α, l.length = n ∧ ∀ i x, l[i]? = some x → p i x
  | 0, _ => ⟨[], rfl, fun i x h => by simp at h⟩
  | n + 1, h => by
    obtain ⟨l, h1, h2⟩ := list_of n (fun i hi => h i (by omega))
    obtain ⟨x, hx⟩ := h n (by omega)
    refine ⟨l ++ [x], by simp [h1], fun i y hy => ?_⟩
    rw [List.getElem?_append] at hy
    split at hy
    · exact h2 i y hy
    · rename_i hn
      have hlt := (List.getElem?_eq_some_iff.1 hy).1
      simp at hlt
      have : i = n := by omega
      subst this
      rw [h1] at hy
      simp at hy
      subst hy
      exact hx
theorem plain_addr {w : World} {a : Addr} {v : Value} (h : w.cell? (a.add 0) = some v) : ∃ b o, a = ⟨b, o, none⟩ := by
  obtain ⟨b, o, s⟩ := a
  refine ⟨b, o, ?_⟩
  have e : (⟨b, o, s⟩ : Addr).add 0 = ⟨b, o, s⟩ := by simp [Addr.add]
  rw [e] at h
  cases s with
  | none => rfl
  | some s =>
    unfold World.cell? at h
    split at h <;> simp at h
theorem add_plain (b o j : Nat) : (⟨b, o, none⟩ : Addr).add j = ⟨b, o + j, none⟩ := by
  unfold Addr.add; split <;> simp_all
section
variable {H : Type} {enc : TypeId × Value → H} {W : World} {base : Nat} {sp : Nat → Bool} {hd : Bool}
theorem slice_bound {t e : TypeId} (ht : Tryz.prog.underlying t = some (.slice e)) {A : Option Addr} {n c : Nat} {fuel : Nat} {x : DataW H × List MemPlace} (h : DataW.trod enc Tryz.prog W base sp hd fuel t [.slice A n c] = some x) : n ≤ 9223372036854775807 := by
  rcases Go.Deep.open_slice ht h with ⟨h0, _⟩ | ⟨a, len, cap, m, k, D, Pl, hcs, _, hl, hm, _⟩
  · injection h0 with h0
    injection h0 with h1 h2 h3
    omega
  · injection hcs with hcs
    injection hcs with h1 h2 h3
    unfold maxLen at hm
    omega
theorem it_row {fuel : Nat} {cs : List Value} {x : DataW H × List MemPlace} (hl : cs.length = 4) (h : DataW.trod enc Tryz.prog W base sp hd fuel 34 cs = some x) : ∃ y : It, cs = y.vals := by
  obtain ⟨ys, n', hn', hy, hlen, hyl, hg⟩ := DataW.trod_struct Tryz.underlying34 h
  match cs, hl with
  | [c1, c2, c3, c4], _ =>
    have hyl2 : ys.length = 4 := hyl
    have h1 : DataW.trod enc Tryz.prog W base sp hd n' 9 [c1] = ys[0]? := hg 0 _ rfl
    have h2 : DataW.trod enc Tryz.prog W base sp hd n' 9 [c2] = ys[1]? := hg 1 _ rfl
    have h3 : DataW.trod enc Tryz.prog W base sp hd n' 3 [c3] = ys[2]? := hg 2 _ rfl
    have h4 : DataW.trod enc Tryz.prog W base sp hd n' 3 [c4] = ys[3]? := hg 3 _ rfl
    rw [List.getElem?_eq_getElem (by omega)] at h1 h2 h3 h4
    obtain ⟨k, e1, _⟩ := DataW.trod_string Tryz.underlying9 h1
    obtain ⟨t, e2, _⟩ := DataW.trod_string Tryz.underlying9 h2
    obtain ⟨z, e3, _⟩ := DataW.trod_int Tryz.underlying3 h3
    obtain ⟨r, e4, _⟩ := DataW.trod_int Tryz.underlying3 h4
    injection e1 with e1; injection e2 with e2; injection e3 with e3; injection e4 with e4
    subst e1 e2 e3 e4
    exact ⟨⟨k, t, z, r⟩, rfl⟩
theorem op_row {fuel : Nat} {cs : List Value} {x : DataW H × List MemPlace} (hl : cs.length = 5) (h : DataW.trod enc Tryz.prog W base sp hd fuel 36 cs = some x) : ∃ y : OpI, cs = opC y := by
  obtain ⟨ys, n', hn', hy, hlen, hyl, hg⟩ := DataW.trod_struct Tryz.underlying36 h
  match cs, hl with
  | [c0, c1, c2, c3, c4], _ =>
    have hyl2 : ys.length = 2 := hyl
    have h0 : DataW.trod enc Tryz.prog W base sp hd n' 4 [c0] = ys[0]? := hg 0 _ rfl
    have h1 : DataW.trod enc Tryz.prog W base sp hd n' 34 [c1, c2, c3, c4] = ys[1]? := hg 1 _ rfl
    rw [List.getElem?_eq_getElem (by omega)] at h0 h1
    obtain ⟨b, e0, _⟩ := DataW.trod_bool Tryz.underlying4 h0
    obtain ⟨y, e1⟩ := it_row rfl h1
    injection e0 with e0
    subst e0
    refine ⟨⟨b, y⟩, ?_⟩
    unfold opC
    rw [e1]
    rfl
theorem open_ops {r : Reach} {b0 : Nat} {v : Value} {d : DataW H} {ps : List MemPlace} (hval : Value.okWide Tryz.prog W r b0 22 v) (h : DataW.Trod enc Tryz.prog W base sp hd 22 v d ps) :
    ∃ (A : Option Addr) (n c : Nat) (L : List OpI), v = .slice A n c ∧ OpsRead W A n L ∧ n ≤ 9223372036854775807 := by
  obtain ⟨fuel, hf⟩ := h
  obtain ⟨A, n, c, rfl⟩ := Go.WideShapes.okWide_slice Tryz.underlying22 hval
  have hf2 : DataW.trod enc Tryz.prog W base sp hd fuel 22 [.slice A n c] = some (d, ps) := by simpa [Value.cells] using hf
  have hn := slice_bound Tryz.underlying22 hf2
  rcases Go.Deep.open_slice Tryz.underlying22 hf2 with ⟨h0, _⟩ | ⟨a, len, cap, m, n', D, Pl, hcs, hb, hl, hm, hmm, hx, hi⟩
  · injection h0 with h0
    injection h0 with e1 e2 e3
    subst e1; subst e2; subst e3
    exact ⟨none, 0, 0, [], rfl, ⟨rfl, Reads.nil_ _ _ _⟩, hn⟩
  · injection hcs with hcs
    injection hcs with e1 e2 e3
    subst e1; subst e2; subst e3
    have hlm : n ≤ m := by rw [hmm]; split <;> omega
    obtain ⟨L, h1, h2⟩ := list_of (p := fun i (z : OpI) => ∀ j u, (opC z)[j]? = some u → W.cell? ((a.add (i * 5)).add j) = some u) n (fun i hil => by
      obtain ⟨cs', hcc, ht'⟩ := hi i (by omega)
      rw [cellsOp] at hcc
      obtain ⟨_, hcl, hat⟩ := World.cells?_some hcc
      obtain ⟨z, rfl⟩ := op_row hcl ht'
      refine ⟨z, fun j u hu => ?_⟩
      have hj : j < 5 := (List.getElem?_eq_some_iff.1 hu).1
      rw [hat j hj]; exact hu)
    refine ⟨some a, n, c, L, rfl, ⟨h1, by rw [opsC_len, h1], fun hn => ?_⟩, hn⟩
    obtain ⟨z0, hz0⟩ : ∃ z, L[0]? = some z := ⟨_, List.getElem?_eq_getElem (by omega)⟩
    obtain ⟨b, o, rfl⟩ := plain_addr (a := a) (w := W) (by have := h2 0 z0 hz0 0 _ rfl; simpa [Addr.add] using this)
    refine ⟨b, o, rfl, fun j u hu => ?_⟩
    have hjl := (List.getElem?_eq_some_iff.1 hu).1
    rw [opsC_len] at hjl
    obtain ⟨z, hz⟩ : ∃ z, L[j / 5]? = some z := ⟨_, List.getElem?_eq_getElem (by omega)⟩
    have h3 := opsC_at L (j / 5) (j % 5) z hz (by omega)
    rw [show 5 * (j / 5) + j % 5 = j by omega] at h3
    have h4 := h2 (j / 5) z hz (j % 5) u (h3.symm.trans hu)
    rw [add_plain, add_plain] at h4
    rw [show o + j = o + j / 5 * 5 + j % 5 by omega]
    exact h4
end
end Go.Proofs.YtcjeddichookmaaGreatDoor
