/- An index: Put. -/
import Derived.Test.YtcjeddichookmaaGreatDoorIZ19
import Derived.Test.YtcjeddichookmaaGreatDoorProg
import Derived.WalkKit
import Derived.WalkSpells
import Derived.WalkLawsBesides
import Derived.Below
import Derived.Deep.QuietTactic
import Derived.BigQuiet
import Derived.Lib.QuietBelow
import Derived.Lib.Strings
import Derived.Lib.Hide
import Derived.Deep.RegionWith
import Derived.Deep.RegionHeld3
import Derived.Lib.IndexBytes
import Derived.Test.YtcjeddichookmaaGreatDoorIZ1
import Derived.Test.YtcjeddichookmaaGreatDoorCards
import Derived.Test.YtcjeddichookmaaGreatDoorTie
import Derived.ProofKit
import Derived.OpenShut
import Derived.Deep.DeepHandedRow
import Derived.Lib.LaidTab
import Derived.Stop.LaidErr
import Derived.Shelf.Vars
namespace Go.Proofs.YtcjeddichookmaaGreatDoor
open Go.RowKit Go.Sort
set_option linter.unusedVariables false
set_option linter.unusedSimpArgs false
set_option maxRecDepth 100000
def TupT (a b : ITr) (v : Value) (W : World) : Prop := ∃ B C, v = .tuple #[.pointer B, .pointer C] ∧ NodeAt W a B ∧ NodeAt W b C
theorem keeps_tup (a b : ITr) : Keeps (TupT a b) := fun v w w' ⟨B, C, e, h1, h2⟩ hb => ⟨B, C, e, NodeAt.keep hb h1, NodeAt.keep hb h2⟩
def PrioV (v : Value) (_ : World) : Prop := ∃ p : Nat, v = .agg #[.int .u64 (p : Int)] ∧ p < 18446744073709551616
theorem keeps_prio : Keeps PrioV := fun _ _ _ h _ => h
def NewV (x : It) (v : Value) (_ : World) : Prop := ∃ p : Nat, v = .agg #[.int .u64 (p : Int), .string x.k, .string x.k, .string x.t, .int .i64 x.z, .int .i64 x.r, .pointer none, .pointer none, .int .i64 1, .int .i64 x.z] ∧ p < 18446744073709551616
theorem keeps_new (x : It) : Keeps (NewV x) := fun _ _ _ h _ => h
def OneT (x : It) (v : Value) (W : World) : Prop := ∃ p, PtrT (.node p x .nil .nil) v W
theorem keeps_one (x : It) : Keeps (OneT x) := fun v w w' ⟨p, h⟩ hb => ⟨p, keeps_ptr _ v w w' h hb⟩
structure IpW (w : World) (A : Option Addr) (x : It) (W : World) : Prop where
  a : RowV W w.heap.size 27 [.pointer A]
  b : RowV W (w.heap.size + 1) 34 [.string x.k, .string x.t, .int .i64 x.z, .int .i64 x.r]
  c : RowV W (w.heap.size + 2) 27 [.pointer none]
  w : Below w.heap.size w W
theorem IpW.keep {w W W' : World} {A : Option Addr} {x : It} (h : IpW w A x W) (hb : Below W.heap.size W W') : IpW w A x W' := ⟨h.a.keep hb, h.b.keep hb, h.c.keep hb, bstep h.w hb⟩
theorem ipW_new (w : World) (A : Option Addr) (x : It) : IpW w A x (((w.alloc (.cells #[.pointer A] 27)).alloc (.cells #[.string x.k, .string x.t, .int .i64 x.z, .int .i64 x.r] 34)).alloc (.cells #[.pointer none] 27)) :=
  ⟨((RowV.new w _ [.pointer A]).alloc _).alloc _, RowV.alloc (by have h := RowV.new (w.alloc (.cells #[.pointer A] 27)) 34 [.string x.k, .string x.t, .int .i64 x.z, .int .i64 x.r]; rwa [World.size_alloc] at h) _,
    by have h := RowV.new ((w.alloc (.cells #[.pointer A] 27)).alloc (.cells #[.string x.k, .string x.t, .int .i64 x.z, .int .i64 x.r] 34)) 27 [.pointer none]; rwa [World.size_alloc, World.size_alloc] at h, belB⟩
theorem IpW.facts {w W : World} {A : Option Addr} {x : It} (h : IpW w A x W) : W.cell? ⟨w.heap.size, 0, none⟩ = some (.pointer A) ∧ W.cell? ⟨w.heap.size + 1, 0, none⟩ = some (.string x.k) ∧ W.cell? ⟨w.heap.size + 1, 1, none⟩ = some (.string x.t) ∧ W.cell? ⟨w.heap.size + 1, 2, none⟩ = some (.int .i64 x.z) ∧ W.cell? ⟨w.heap.size + 1, 3, none⟩ = some (.int .i64 x.r) ∧ W.cell? ⟨w.heap.size + 2, 0, none⟩ = some (.pointer none) ∧ W.frozen? ⟨w.heap.size + 2, 0, none⟩ = false :=
  ⟨h.a.cell rfl, h.b.cell rfl, h.b.cell rfl, h.b.cell rfl, h.b.cell rfl, h.c.cell rfl, h.c.free 0⟩
def IxPutP (L : List It) (x : It) (w : World) (e : Ending) (w' : World) : Prop := ∃ B, e = .returned (.tuple #[.agg #[.pointer B], .int .i64 (ixPutS L x).2]) ∧ IxAt w' B (ixPutS L x).1 ∧ Below w.heap.size w w'
theorem put_tree {t : ITr} {L : List It} (hL : Tr.toL t = L) (hu : UpI L) (x : It) (p : Nat) :
    Tr.toL (Tr.join (Tr.join (splT x.k (woT x.k t)).1 (.node p x .nil .nil)) (splT x.k (woT x.k t)).2) = ixPut L x := by
  subst hL
  have h1 := Tr.toL_without ordK x.k t hu
  have hu2 : UpI (Tr.toL (woT x.k t)) := by
    show UpI (Tr.toL (Tr.without It.k ltB x.k t))
    rw [h1]
    exact up_filter _ hu
  obtain ⟨s1, s2⟩ := Tr.toL_split ordK x.k (woT x.k t) hu2
  rw [Tr.toL_join, Tr.toL_join]
  show Tr.toL (Tr.split It.k ltB x.k (woT x.k t)).1 ++ [x] ++ Tr.toL (Tr.split It.k ltB x.k (woT x.k t)).2 = _
  rw [s1, s2, ← put_parts x hu]
  have h1' : Tr.toL (woT x.k t) = ixDel (Tr.toL t) x.k := h1
  rw [h1']
  simp
structure PutS6 (w : World) (A : Option Addr) (x : It) (t : ITr) (W : World) : Prop where
  i : IpW w A x W
  n : NodeAt W t A
theorem PutS6.keep {w W W' : World} {A : Option Addr} {x : It} {t : ITr} (h : PutS6 w A x t W) (hb : Below W.heap.size W W') : PutS6 w A x t W' := ⟨h.i.keep hb, NodeAt.keep hb h.n⟩
structure PutS7 (w : World) (A : Option Addr) (x : It) (s1 s2 : ITr) (B C : Option Addr) (W : World) : Prop where
  i : IpW w A x W
  b : NodeAt W s1 B
  c : NodeAt W s2 C
theorem PutS7.keep {w W W' : World} {A : Option Addr} {x : It} {s1 s2 : ITr} {B C : Option Addr} (h : PutS7 w A x s1 s2 B C W) (hb : Below W.heap.size W W') : PutS7 w A x s1 s2 B C W' := ⟨h.i.keep hb, NodeAt.keep hb h.b, NodeAt.keep hb h.c⟩
theorem one_new (x : It) (p : Nat) (hp : p < 18446744073709551616) (W : World) : NodeAt (W.alloc (.cells #[.int .u64 (p : Int), .string x.k, .string x.k, .string x.t, .int .i64 x.z, .int .i64 x.r, .pointer none, .pointer none, .int .i64 1, .int .i64 x.z] 58)) (.node p x .nil .nil) (some ⟨W.heap.size, 0, none⟩) := by
  refine ⟨W.heap.size, none, none, rfl, hp, ?_, rfl, rfl⟩
  have e1 : Tr.total It.z (.node p x .nil .nil) = x.z := by simp [Tr.total]
  rw [e1]
  exact RowV.new W 58 (ndC p x none none 1 x.z)
set_option maxHeartbeats 8000000 in
theorem ixPut_any (A : Option Addr) (L : List It) (x : It) (w : World) (h : IxAt w A L) (hu : UpI L) (hn : L.length ≤ 900) (hk : x.k.size ≤ 100000) (ht : x.t.size ≤ 100000) (hE : Env w) (hK : Ks w) :
    Calls Tryz.prog 9 #[.agg #[.pointer A], .agg #[.string x.k, .string x.t, .int .i64 x.z, .int .i64 x.r]] w (IxPutP L x w) := by
  obtain ⟨t, hnd, hL, ho⟩ := h
  have hv := fun W (hb : Below w.heap.size w W) => iValid_any x W hk ht (Env.keep hE hb)
  have hc := fun W (hb : Below w.heap.size w W) => treeFind_any x.k t A W (NodeAt.keep hb hnd)
  rw [find_get hL hu x.k] at hc
  have hw := fun W (h : NodeAt W t A) => treeWithout_any x.k t A W h ho
  have hok := wo_ok x.k ho
  have hs := fun W P (h : NodeAt W (woT x.k t) P) => treeSplit_any x.k (woT x.k t) P W h hok
  obtain ⟨ho1, ho2⟩ := split_ok x.k hok
  have hpt := put_tree hL hu x
  have hlen : Tr.len t ≤ 900 := by rw [Tr.len_eq, hL]; exact hn
  obtain ⟨_, hwl⟩ := wo_sub x.k t
  obtain ⟨_, _, hsl⟩ := split_sub x.k (woT x.k t)
  have hp := fun W (hb : Below w.heap.size w W) => priority_any x.k W (by omega) (hK.keep hb)
  have hix := fun W (hb : Below w.heap.size w W) => IxAt.keep (show IxAt w A L from ⟨t, hnd, hL, ho⟩) hb
  have hll := fun W (hb : Below w.heap.size w W) => ixLen_any A L W (hix W hb)
  have hI := ipW_new w A x
  have hS0 := fun (W : World) (hi : IpW w A x W) => (show PutS6 w A x t W from ⟨hi, NodeAt.keep hi.w hnd⟩)
  have hz : validI x = true → 0 ≤ x.z ∧ x.z ≤ 1099511627776 := valid_z
  have hpl := ixPut_len L x hu
  have hmem : ∀ y ∈ ixPut L x, validI x = true → 0 ≤ y.z ∧ y.z ≤ 1099511627776 := fun y hy hvx => by
    rcases mem_put hy with e | e
    · rw [e]; exact valid_z hvx
    · exact ho.z y (by rw [hL]; exact e)
  have hr : ixPutS L x = if validI x then (ixPut L x, 0) else (L, 1) := by
    unfold ixPutS
    simp only [decide_eq_false (show ¬ L.length = 1048576 by omega), Bool.and_false, Bool.false_eq_true, if_false]
  unfold IxPutP
  rw [hr]
  have hlp : (ixPut L x).length ≤ 1000 := by split at hpl <;> omega
  have HV := Lib.hid hv; have HF := Lib.hid hc; have HW := Lib.hid hw; have HS := Lib.hid hs; have HP := Lib.hid hp; have HIX := Lib.hid hix; have HLn := Lib.hid hll; have HI := Lib.hid hI; have HS0 := Lib.hid hS0; have HPT := Lib.hid hpt; have HM := Lib.hid hmem; have HZ := Lib.hid hz
  have hn48 : ((L.length : Int) == 1048576) = false := by
    have : ¬ (L.length : Int) = 1048576 := by omega
    simpa using this
  clear hv hc hw hs hp hix hll hI hS0 hpt hL hu hnd hE hK hr hpl hmem hz
  generalize woT x.k t = T1 at *
  generalize (splT x.k T1).1 = S1 at *
  generalize (splT x.k T1).2 = S2 at *
  cases hvv : validI x
  · rw [hvv] at HV
    rw [if_neg (by decide)]
    go_enter Tryz.func9, Tryz.ntmps9
    go_wp2_with (go_at_call 18; refine (HV.out _ belB).mono ?_; rintro e w2 ⟨rfl, hb2⟩; have hI2 := HI.out.keep hb2; obtain ⟨y0, y1, y2, y3, y4, y5, g5⟩ := hI2.facts)
    have hS := hI2.c.set_ 0 (.pointer A)
    have hb4 : Below w.heap.size w (w2.setCell ⟨w.heap.size + 2, 0, none⟩ (.pointer A)) := hI2.w.setCell (by simp) _
    generalize hw4 : World.setCell _ _ _ = w4 at *
    have q0 := hS.cell (k := 0) rfl
    exact bodyPost_ret (v := .tuple #[.agg #[.pointer A], .int .i64 1]) (by simp [results, Tryz.results9, go_sem, q0]) rfl ⟨A, rfl, HIX.out _ hb4, hb4⟩
  · rw [hvv] at HV
    rw [if_pos rfl]
    have hz := HZ.out hvv
    have hm := fun y hy => HM.out y hy hvv
    have HM2 := Lib.hid hm
    clear HM HZ hm hvv
    cases hg : ixGet L x.k with
    | none =>
      rw [hg] at HF
      have hln : L.length ≤ 900 := hn
      generalize hLn : L.length = n at HLn hn48
      go_enter Tryz.func9, Tryz.ntmps9
      go_upto_region 6 with (first | (go_at_call 18; refine (HV.out _ belB).mono ?_; rintro e w2 ⟨rfl, hb2⟩; have hI2 := HI.out.keep hb2; obtain ⟨y0, y1, y2, y3, y4, y5, g5⟩ := hI2.facts) | ((go_at_call 16; refine (HF.out _ belB).mono ?_; rintro e w3 ⟨P, rfl, hP, hb3⟩; have hI3 := hI2.keep hb3; clear y0 y1 y2 y3 y4 y5 g5; obtain ⟨y0, y1, y2, y3, y4, y5, g5⟩ := hI3.facts); cases (show P = none from hP)) | (go_at_call 11; refine (HLn.out _ hI3.w).mono ?_; rintro e w4 ⟨rfl, hb4⟩))
      have hI4 := hI3.keep hb4
      have hS6 := HS0.out _ hI4
      clear hI2 hI3 hI4 y0 y1 y2 y3 y4 y5 g5 HIX HLn HF HV HI HS0
      refine wp_detD 13 (by kernel_rfl) (by kernel_rfl) (by kernel_rfl) (DL [IsV (.pointer (some ⟨w.heap.size, 0, none⟩)), IsV (.pointer A), IsV (.pointer (some ⟨w.heap.size + 1, 0, none⟩)), IsV (.string x.k), PtrT T1, IsV (.pointer (some ⟨w.heap.size + 1, 0, none⟩)), IsV (.string x.k), TupT S1 S2, TupT S1 S2, PtrT S1, PtrT S2, PtrT S1, PtrT S2]) (DL.keep _ (by simp only [KeepAll]; repeat' (first | apply And.intro | exact keeps_is _ | exact keeps_ptr _ | exact keeps_tup _ _ | exact keeps_prio | exact keeps_new _ | exact keeps_one _ | exact trivial))) (PutS6 w A x t) (hS6.keep (Below.drew (Below.refl _ _))) (fun _ _ h hb => h.keep hb) ?_ ?_
      · dsimp only [List.take_succ_cons, List.take_zero, DetD]
        refine ⟨fun vals W hS hd => ?_, fun vals W hS hd => ?_, fun vals W hS hd => ?_, fun vals W hS hd => ?_, fun vals W hS hd => ?_, fun vals W hS hd => ?_, fun vals W hS hd => ?_, fun vals W hS hd => ?_, fun vals W hS hd => ?_, fun vals W hS hd => ?_, fun vals W hS hd => ?_, fun vals W hS hd => ?_, fun vals W hS hd => ?_, trivial⟩
        rotate_left 4
        · (try simp only [DepsL, DL, IsV, List.getD_cons_zero, List.getD_cons_succ, Region.binds, and_true, true_and] at hd)
          simp only [putL, putF, Act.put]
          (try simp only [hd])
          clear hd
          have hj := HW.out W hS.n
          go_wp2_with (go_at_call 17; refine hj.mono ?_; rintro e w2 ⟨P, rfl, hP, hb2⟩)
          exact ⟨rfl, ⟨P, rfl, hP⟩, rfl, belB⟩
        rotate_left 2
        · (try simp only [DepsL, DL, IsV, List.getD_cons_zero, List.getD_cons_succ, Region.binds, and_true, true_and] at hd)
          have h4 : PtrT T1 (vals 4) W := (by first | exact hd.1 | exact hd.1.1)
          have h6 : vals 6 = .string x.k := (by first | exact hd.2.1 | exact hd.2 | exact hd.2.2)
          obtain ⟨P, e4, hP⟩ := h4
          simp only [putL, putF, Act.put]
          simp only [e4, h6]
          clear hd e4 h6
          have hj := HS.out W P hP
          go_wp2_with (go_at_call 19; refine hj.mono ?_; rintro e w2 ⟨B, C, rfl, hB, hC, hb2⟩)
          exact ⟨rfl, ⟨B, C, rfl, hB, hC⟩, rfl, belB⟩
        · (try simp only [DepsL, DL, IsV, List.getD_cons_zero, List.getD_cons_succ, Region.binds, and_true, true_and] at hd)
          have h7 : TupT S1 S2 (vals 7) W := (by first | exact hd | exact hd.1)
          obtain ⟨B, C, e7, hB, hC⟩ := h7
          simp only [putL, putF, Act.put]
          simp only [e7]
          clear hd e7
          go_wp2
          exact ⟨rfl, ⟨B, C, rfl, hB, hC⟩, rfl, belB⟩
        · (try simp only [DepsL, DL, IsV, List.getD_cons_zero, List.getD_cons_succ, Region.binds, and_true, true_and] at hd)
          have h8 : TupT S1 S2 (vals 8) W := (by first | exact hd | exact hd.1)
          obtain ⟨B, C, e8, hB, hC⟩ := h8
          simp only [putL, putF, Act.put]
          simp only [e8]
          clear hd e8
          go_wp2
          exact ⟨rfl, ⟨B, rfl, hB⟩, rfl, belB⟩
        · (try simp only [DepsL, DL, IsV, List.getD_cons_zero, List.getD_cons_succ, Region.binds, and_true, true_and] at hd)
          have h8 : TupT S1 S2 (vals 8) W := (by first | exact hd | exact hd.1)
          obtain ⟨B, C, e8, hB, hC⟩ := h8
          simp only [putL, putF, Act.put]
          simp only [e8]
          clear hd e8
          go_wp2
          exact ⟨rfl, ⟨C, rfl, hC⟩, rfl, belB⟩
        · (try simp only [DepsL, DL, IsV, List.getD_cons_zero, List.getD_cons_succ, Region.binds, and_true, true_and] at hd)
          have h9 : PtrT S1 (vals 9) W := (by first | exact hd | exact hd.1)
          obtain ⟨B, e9, hB⟩ := h9
          simp only [putL, putF, Act.put]
          simp only [e9]
          clear hd e9
          go_wp2
          exact ⟨rfl, ⟨B, rfl, hB⟩, rfl, belB⟩
        · (try simp only [DepsL, DL, IsV, List.getD_cons_zero, List.getD_cons_succ, Region.binds, and_true, true_and] at hd)
          have h10 : PtrT S2 (vals 10) W := (by first | exact hd | exact hd.1)
          obtain ⟨C, e10, hC⟩ := h10
          simp only [putL, putF, Act.put]
          simp only [e10]
          clear hd e10
          go_wp2
          exact ⟨rfl, ⟨C, rfl, hC⟩, rfl, belB⟩
        all_goals
          (try simp only [DepsL, DL, IsV, List.getD_cons_zero, List.getD_cons_succ, Region.binds, and_true, true_and] at hd)
          simp only [putL, putF, Act.put]
          (try simp only [hd])
          clear hd
          obtain ⟨z0, z1, z2, z3, z4, z5, g6⟩ := hS.i.facts
          go_wp2
          exact ⟨rfl, rfl, rfl, belB⟩
      intro vals w9 hS9 hD
      obtain ⟨B, e11, hB⟩ : PtrT S1 (vals 11) w9 := hD 11 (by omega)
      obtain ⟨C, e12, hC⟩ : PtrT S2 (vals 12) w9 := hD 12 (by omega)
      simp only [putL, putF, Act.put]
      simp only [e11, e12]
      clear hD e11 e12
      have hS7 : PutS7 w A x S1 S2 B C w9 := ⟨hS9.i, hB, hC⟩
      have HS7 := Lib.hid hS7
      clear hS9 hB hC hS7 HW HS hS6
      go_upto_region 7 with fail
      refine wp_detD 10 (by kernel_rfl) (by kernel_rfl) (by kernel_rfl) (DL [IsV (.pointer (some ⟨w.heap.size + 1, 0, none⟩)), IsV (.string x.k), PrioV, IsV (.pointer (some ⟨w.heap.size + 1, 0, none⟩)), IsV (.string x.k), IsV (.agg #[.string x.k, .string x.t, .int .i64 x.z, .int .i64 x.r]), IsV (.pointer (some ⟨w.heap.size + 1, 2, none⟩)), IsV (.int .i64 x.z), NewV x, OneT x]) (DL.keep _ (by simp only [KeepAll]; repeat' (first | apply And.intro | exact keeps_is _ | exact keeps_ptr _ | exact keeps_tup _ _ | exact keeps_prio | exact keeps_new _ | exact keeps_one _ | exact trivial))) (PutS7 w A x S1 S2 B C) (HS7.out.keep (Below.drew (Below.refl _ _))) (fun _ _ h hb => h.keep hb) ?_ ?_
      · dsimp only [List.take_succ_cons, List.take_zero, DetD]
        refine ⟨fun vals W hS hd => ?_, fun vals W hS hd => ?_, fun vals W hS hd => ?_, fun vals W hS hd => ?_, fun vals W hS hd => ?_, fun vals W hS hd => ?_, fun vals W hS hd => ?_, fun vals W hS hd => ?_, fun vals W hS hd => ?_, fun vals W hS hd => ?_, trivial⟩
        rotate_left 2
        · (try simp only [DepsL, DL, IsV, List.getD_cons_zero, List.getD_cons_succ, Region.binds, and_true, true_and] at hd)
          simp only [putL, putF, Act.put]
          (try simp only [hd])
          clear hd
          have hj := HP.out W hS.i.w
          go_wp2_with (go_at_call 20; refine hj.mono ?_; rintro e w2 ⟨p, rfl, hp, hb2⟩)
          exact ⟨rfl, ⟨p, rfl, hp⟩, rfl, belB⟩
        rotate_left 5
        · (try simp only [DepsL, DL, IsV, List.getD_cons_zero, List.getD_cons_succ, Region.binds, and_true, true_and] at hd)
          have h2 : PrioV (vals 2) W := hd.1
          have h4 : vals 4 = .string x.k := hd.2.1
          have h5 : vals 5 = .agg #[.string x.k, .string x.t, .int .i64 x.z, .int .i64 x.r] := hd.2.2.1
          have h7 : vals 7 = .int .i64 x.z := (by first | exact hd.2.2.2 | exact hd.2.2.2.1)
          obtain ⟨p, e2, hp⟩ := h2
          simp only [putL, putF, Act.put]
          simp only [e2, h4, h5, h7]
          clear hd e2 h4 h5 h7
          go_wp2
          exact ⟨rfl, ⟨p, rfl, hp⟩, rfl, belB⟩
        · (try simp only [DepsL, DL, IsV, List.getD_cons_zero, List.getD_cons_succ, Region.binds, and_true, true_and] at hd)
          have h8 : NewV x (vals 8) W := (by first | exact hd | exact hd.1)
          obtain ⟨p, e8, hp⟩ := h8
          simp only [putL, putF, Act.put]
          simp only [e8]
          clear hd e8
          have hnw := one_new x p hp W
          go_wp2
          exact ⟨rfl, ⟨p, _, rfl, hnw⟩, rfl, belB⟩
        all_goals
          (try simp only [DepsL, DL, IsV, List.getD_cons_zero, List.getD_cons_succ, Region.binds, and_true, true_and] at hd)
          simp only [putL, putF, Act.put]
          (try simp only [hd])
          clear hd
          obtain ⟨z0, z1, z2, z3, z4, z5, g6⟩ := hS.i.facts
          go_wp2
          exact ⟨rfl, rfl, rfl, belB⟩
      intro vals w10 hS10 hD
      obtain ⟨p, N, e9, hN⟩ : OneT x (vals 9) w10 := hD 9 (by omega)
      simp only [putL, putF, Act.put]
      simp only [e9]
      clear hD e9 HP HS7
      have hoN : TrOk (.node p x .nil .nil) := ⟨by simp [Tr.len], fun y hy => by simp [Tr.toL] at hy; subst hy; exact hz⟩
      have hlN : Tr.len (.node p x .nil .nil : ITr) = 1 := rfl
      have hoJ : TrOk (Tr.join S1 (.node p x .nil .nil)) := join_ok ho1 hoN (by omega)
      have hlJ : Tr.len (Tr.join S1 (.node p x .nil .nil)) = Tr.len S1 + 1 := by rw [Tr.len_eq, Tr.toL_join, List.length_append, ← Tr.len_eq]; rfl
      have hj1 := treeJoin_any 1000 S1 (.node p x .nil .nil) B N w10 (by omega) (Nat.le_refl _) hS10.b hN ho1 hoN
      have hj2 := fun W P (h1 : NodeAt W (Tr.join S1 (.node p x .nil .nil)) P) (h2 : NodeAt W S2 C) => treeJoin_any 1000 (Tr.join S1 (.node p x .nil .nil)) S2 P C W (by omega) (Nat.le_refl _) h1 h2 hoJ ho2
      have hpt := HPT.out p
      have HJ1 := Lib.hid hj1; have HJ2 := Lib.hid hj2; have HPT2 := Lib.hid hpt; have HS10 := Lib.hid hS10
      clear hj1 hj2 hpt HPT hoN hoJ hlJ hlN hN hS10
      generalize Tr.join S1 (.node p x .nil .nil) = J1 at *
      generalize Tr.join J1 S2 = J2 at *
      go_wp2_with (first | (go_at_call 21; refine HJ1.out.mono ?_; rintro e w11 ⟨P1, rfl, hP1, hb11⟩; clear HJ1) | (go_at_call 21; refine (HJ2.out _ _ hP1 (NodeAt.keep hb11 HS10.out.c)).mono ?_; rintro e w12 ⟨P2, rfl, hP2, hb12⟩; have hI12 := (HS10.out.i.keep hb11).keep hb12; have q0 := hI12.c.cell (k := 0) rfl; have q1 := hI12.c.free 0))
      have hS := hI12.c.set_ 0 (.pointer P2)
      have hb4 : Below w.heap.size w (w12.setCell ⟨w.heap.size + 2, 0, none⟩ (.pointer P2)) := hI12.w.setCell (by simp) _
      have hN4 := NodeAt.far hI12.c (by decide) 0 (.pointer P2) hP2
      have hIx4 : IxAt (w12.setCell ⟨w.heap.size + 2, 0, none⟩ (.pointer P2)) P2 (ixPut L x) := ⟨J2, hN4, HPT2.out, .of (by rw [HPT2.out]; exact hlp) (fun y hy => HM2.out y (by rw [← HPT2.out]; exact hy))⟩
      generalize hw4 : World.setCell _ _ _ = w4' at *
      have q0 := hS.cell (k := 0) rfl
      exact bodyPost_ret (v := .tuple #[.agg #[.pointer P2], .int .i64 0]) (by simp [results, Tryz.results9, go_sem, q0]) rfl ⟨P2, rfl, hIx4, hb4⟩
    | some y =>
      rw [hg] at HF
      go_enter Tryz.func9, Tryz.ntmps9
      go_upto_region 6 with (first | (go_at_call 18; refine (HV.out _ belB).mono ?_; rintro e w2 ⟨rfl, hb2⟩; have hI2 := HI.out.keep hb2; obtain ⟨y0, y1, y2, y3, y4, y5, g5⟩ := hI2.facts) | ((go_at_call 16; refine (HF.out _ belB).mono ?_; rintro e w3 ⟨P, rfl, hP, hb3⟩; have hI3 := hI2.keep hb3; clear y0 y1 y2 y3 y4 y5 g5; obtain ⟨y0, y1, y2, y3, y4, y5, g5⟩ := hI3.facts); obtain ⟨p, l, r, hnd⟩ := hP; obtain ⟨b, L0, R0, rfl, _⟩ := hnd.facts))
      have hI4 := hI3
      have hS6 := HS0.out _ hI4
      clear hI2 hI3 hI4 y0 y1 y2 y3 y4 y5 g5 HIX HLn HF HV HI HS0
      refine wp_detD 13 (by kernel_rfl) (by kernel_rfl) (by kernel_rfl) (DL [IsV (.pointer (some ⟨w.heap.size, 0, none⟩)), IsV (.pointer A), IsV (.pointer (some ⟨w.heap.size + 1, 0, none⟩)), IsV (.string x.k), PtrT T1, IsV (.pointer (some ⟨w.heap.size + 1, 0, none⟩)), IsV (.string x.k), TupT S1 S2, TupT S1 S2, PtrT S1, PtrT S2, PtrT S1, PtrT S2]) (DL.keep _ (by simp only [KeepAll]; repeat' (first | apply And.intro | exact keeps_is _ | exact keeps_ptr _ | exact keeps_tup _ _ | exact keeps_prio | exact keeps_new _ | exact keeps_one _ | exact trivial))) (PutS6 w A x t) (hS6.keep (Below.drew (Below.refl _ _))) (fun _ _ h hb => h.keep hb) ?_ ?_
      · dsimp only [List.take_succ_cons, List.take_zero, DetD]
        refine ⟨fun vals W hS hd => ?_, fun vals W hS hd => ?_, fun vals W hS hd => ?_, fun vals W hS hd => ?_, fun vals W hS hd => ?_, fun vals W hS hd => ?_, fun vals W hS hd => ?_, fun vals W hS hd => ?_, fun vals W hS hd => ?_, fun vals W hS hd => ?_, fun vals W hS hd => ?_, fun vals W hS hd => ?_, fun vals W hS hd => ?_, trivial⟩
        rotate_left 4
        · (try simp only [DepsL, DL, IsV, List.getD_cons_zero, List.getD_cons_succ, Region.binds, and_true, true_and] at hd)
          simp only [putL, putF, Act.put]
          (try simp only [hd])
          clear hd
          have hj := HW.out W hS.n
          go_wp2_with (go_at_call 17; refine hj.mono ?_; rintro e w2 ⟨P, rfl, hP, hb2⟩)
          exact ⟨rfl, ⟨P, rfl, hP⟩, rfl, belB⟩
        rotate_left 2
        · (try simp only [DepsL, DL, IsV, List.getD_cons_zero, List.getD_cons_succ, Region.binds, and_true, true_and] at hd)
          have h4 : PtrT T1 (vals 4) W := (by first | exact hd.1 | exact hd.1.1)
          have h6 : vals 6 = .string x.k := (by first | exact hd.2.1 | exact hd.2 | exact hd.2.2)
          obtain ⟨P, e4, hP⟩ := h4
          simp only [putL, putF, Act.put]
          simp only [e4, h6]
          clear hd e4 h6
          have hj := HS.out W P hP
          go_wp2_with (go_at_call 19; refine hj.mono ?_; rintro e w2 ⟨B, C, rfl, hB, hC, hb2⟩)
          exact ⟨rfl, ⟨B, C, rfl, hB, hC⟩, rfl, belB⟩
        · (try simp only [DepsL, DL, IsV, List.getD_cons_zero, List.getD_cons_succ, Region.binds, and_true, true_and] at hd)
          have h7 : TupT S1 S2 (vals 7) W := (by first | exact hd | exact hd.1)
          obtain ⟨B, C, e7, hB, hC⟩ := h7
          simp only [putL, putF, Act.put]
          simp only [e7]
          clear hd e7
          go_wp2
          exact ⟨rfl, ⟨B, C, rfl, hB, hC⟩, rfl, belB⟩
        · (try simp only [DepsL, DL, IsV, List.getD_cons_zero, List.getD_cons_succ, Region.binds, and_true, true_and] at hd)
          have h8 : TupT S1 S2 (vals 8) W := (by first | exact hd | exact hd.1)
          obtain ⟨B, C, e8, hB, hC⟩ := h8
          simp only [putL, putF, Act.put]
          simp only [e8]
          clear hd e8
          go_wp2
          exact ⟨rfl, ⟨B, rfl, hB⟩, rfl, belB⟩
        · (try simp only [DepsL, DL, IsV, List.getD_cons_zero, List.getD_cons_succ, Region.binds, and_true, true_and] at hd)
          have h8 : TupT S1 S2 (vals 8) W := (by first | exact hd | exact hd.1)
          obtain ⟨B, C, e8, hB, hC⟩ := h8
          simp only [putL, putF, Act.put]
          simp only [e8]
          clear hd e8
          go_wp2
          exact ⟨rfl, ⟨C, rfl, hC⟩, rfl, belB⟩
        · (try simp only [DepsL, DL, IsV, List.getD_cons_zero, List.getD_cons_succ, Region.binds, and_true, true_and] at hd)
          have h9 : PtrT S1 (vals 9) W := (by first | exact hd | exact hd.1)
          obtain ⟨B, e9, hB⟩ := h9
          simp only [putL, putF, Act.put]
          simp only [e9]
          clear hd e9
          go_wp2
          exact ⟨rfl, ⟨B, rfl, hB⟩, rfl, belB⟩
        · (try simp only [DepsL, DL, IsV, List.getD_cons_zero, List.getD_cons_succ, Region.binds, and_true, true_and] at hd)
          have h10 : PtrT S2 (vals 10) W := (by first | exact hd | exact hd.1)
          obtain ⟨C, e10, hC⟩ := h10
          simp only [putL, putF, Act.put]
          simp only [e10]
          clear hd e10
          go_wp2
          exact ⟨rfl, ⟨C, rfl, hC⟩, rfl, belB⟩
        all_goals
          (try simp only [DepsL, DL, IsV, List.getD_cons_zero, List.getD_cons_succ, Region.binds, and_true, true_and] at hd)
          simp only [putL, putF, Act.put]
          (try simp only [hd])
          clear hd
          obtain ⟨z0, z1, z2, z3, z4, z5, g6⟩ := hS.i.facts
          go_wp2
          exact ⟨rfl, rfl, rfl, belB⟩
      intro vals w9 hS9 hD
      obtain ⟨B, e11, hB⟩ : PtrT S1 (vals 11) w9 := hD 11 (by omega)
      obtain ⟨C, e12, hC⟩ : PtrT S2 (vals 12) w9 := hD 12 (by omega)
      simp only [putL, putF, Act.put]
      simp only [e11, e12]
      clear hD e11 e12
      have hS7 : PutS7 w A x S1 S2 B C w9 := ⟨hS9.i, hB, hC⟩
      have HS7 := Lib.hid hS7
      clear hS9 hB hC hS7 HW HS hS6
      go_upto_region 7 with fail
      refine wp_detD 10 (by kernel_rfl) (by kernel_rfl) (by kernel_rfl) (DL [IsV (.pointer (some ⟨w.heap.size + 1, 0, none⟩)), IsV (.string x.k), PrioV, IsV (.pointer (some ⟨w.heap.size + 1, 0, none⟩)), IsV (.string x.k), IsV (.agg #[.string x.k, .string x.t, .int .i64 x.z, .int .i64 x.r]), IsV (.pointer (some ⟨w.heap.size + 1, 2, none⟩)), IsV (.int .i64 x.z), NewV x, OneT x]) (DL.keep _ (by simp only [KeepAll]; repeat' (first | apply And.intro | exact keeps_is _ | exact keeps_ptr _ | exact keeps_tup _ _ | exact keeps_prio | exact keeps_new _ | exact keeps_one _ | exact trivial))) (PutS7 w A x S1 S2 B C) (HS7.out.keep (Below.drew (Below.refl _ _))) (fun _ _ h hb => h.keep hb) ?_ ?_
      · dsimp only [List.take_succ_cons, List.take_zero, DetD]
        refine ⟨fun vals W hS hd => ?_, fun vals W hS hd => ?_, fun vals W hS hd => ?_, fun vals W hS hd => ?_, fun vals W hS hd => ?_, fun vals W hS hd => ?_, fun vals W hS hd => ?_, fun vals W hS hd => ?_, fun vals W hS hd => ?_, fun vals W hS hd => ?_, trivial⟩
        rotate_left 2
        · (try simp only [DepsL, DL, IsV, List.getD_cons_zero, List.getD_cons_succ, Region.binds, and_true, true_and] at hd)
          simp only [putL, putF, Act.put]
          (try simp only [hd])
          clear hd
          have hj := HP.out W hS.i.w
          go_wp2_with (go_at_call 20; refine hj.mono ?_; rintro e w2 ⟨p, rfl, hp, hb2⟩)
          exact ⟨rfl, ⟨p, rfl, hp⟩, rfl, belB⟩
        rotate_left 5
        · (try simp only [DepsL, DL, IsV, List.getD_cons_zero, List.getD_cons_succ, Region.binds, and_true, true_and] at hd)
          have h2 : PrioV (vals 2) W := hd.1
          have h4 : vals 4 = .string x.k := hd.2.1
          have h5 : vals 5 = .agg #[.string x.k, .string x.t, .int .i64 x.z, .int .i64 x.r] := hd.2.2.1
          have h7 : vals 7 = .int .i64 x.z := (by first | exact hd.2.2.2 | exact hd.2.2.2.1)
          obtain ⟨p, e2, hp⟩ := h2
          simp only [putL, putF, Act.put]
          simp only [e2, h4, h5, h7]
          clear hd e2 h4 h5 h7
          go_wp2
          exact ⟨rfl, ⟨p, rfl, hp⟩, rfl, belB⟩
        · (try simp only [DepsL, DL, IsV, List.getD_cons_zero, List.getD_cons_succ, Region.binds, and_true, true_and] at hd)
          have h8 : NewV x (vals 8) W := (by first | exact hd | exact hd.1)
          obtain ⟨p, e8, hp⟩ := h8
          simp only [putL, putF, Act.put]
          simp only [e8]
          clear hd e8
          have hnw := one_new x p hp W
          go_wp2
          exact ⟨rfl, ⟨p, _, rfl, hnw⟩, rfl, belB⟩
        all_goals
          (try simp only [DepsL, DL, IsV, List.getD_cons_zero, List.getD_cons_succ, Region.binds, and_true, true_and] at hd)
          simp only [putL, putF, Act.put]
          (try simp only [hd])
          clear hd
          obtain ⟨z0, z1, z2, z3, z4, z5, g6⟩ := hS.i.facts
          go_wp2
          exact ⟨rfl, rfl, rfl, belB⟩
      intro vals w10 hS10 hD
      obtain ⟨p, N, e9, hN⟩ : OneT x (vals 9) w10 := hD 9 (by omega)
      simp only [putL, putF, Act.put]
      simp only [e9]
      clear hD e9 HP HS7
      have hoN : TrOk (.node p x .nil .nil) := ⟨by simp [Tr.len], fun y hy => by simp [Tr.toL] at hy; subst hy; exact hz⟩
      have hlN : Tr.len (.node p x .nil .nil : ITr) = 1 := rfl
      have hoJ : TrOk (Tr.join S1 (.node p x .nil .nil)) := join_ok ho1 hoN (by omega)
      have hlJ : Tr.len (Tr.join S1 (.node p x .nil .nil)) = Tr.len S1 + 1 := by rw [Tr.len_eq, Tr.toL_join, List.length_append, ← Tr.len_eq]; rfl
      have hj1 := treeJoin_any 1000 S1 (.node p x .nil .nil) B N w10 (by omega) (Nat.le_refl _) hS10.b hN ho1 hoN
      have hj2 := fun W P (h1 : NodeAt W (Tr.join S1 (.node p x .nil .nil)) P) (h2 : NodeAt W S2 C) => treeJoin_any 1000 (Tr.join S1 (.node p x .nil .nil)) S2 P C W (by omega) (Nat.le_refl _) h1 h2 hoJ ho2
      have hpt := HPT.out p
      have HJ1 := Lib.hid hj1; have HJ2 := Lib.hid hj2; have HPT2 := Lib.hid hpt; have HS10 := Lib.hid hS10
      clear hj1 hj2 hpt HPT hoN hoJ hlJ hlN hN hS10
      generalize Tr.join S1 (.node p x .nil .nil) = J1 at *
      generalize Tr.join J1 S2 = J2 at *
      go_wp2_with (first | (go_at_call 21; refine HJ1.out.mono ?_; rintro e w11 ⟨P1, rfl, hP1, hb11⟩; clear HJ1) | (go_at_call 21; refine (HJ2.out _ _ hP1 (NodeAt.keep hb11 HS10.out.c)).mono ?_; rintro e w12 ⟨P2, rfl, hP2, hb12⟩; have hI12 := (HS10.out.i.keep hb11).keep hb12; have q0 := hI12.c.cell (k := 0) rfl; have q1 := hI12.c.free 0))
      have hS := hI12.c.set_ 0 (.pointer P2)
      have hb4 : Below w.heap.size w (w12.setCell ⟨w.heap.size + 2, 0, none⟩ (.pointer P2)) := hI12.w.setCell (by simp) _
      have hN4 := NodeAt.far hI12.c (by decide) 0 (.pointer P2) hP2
      have hIx4 : IxAt (w12.setCell ⟨w.heap.size + 2, 0, none⟩ (.pointer P2)) P2 (ixPut L x) := ⟨J2, hN4, HPT2.out, .of (by rw [HPT2.out]; exact hlp) (fun y hy => HM2.out y (by rw [← HPT2.out]; exact hy))⟩
      generalize hw4 : World.setCell _ _ _ = w4' at *
      have q0 := hS.cell (k := 0) rfl
      exact bodyPost_ret (v := .tuple #[.agg #[.pointer P2], .int .i64 0]) (by simp [results, Tryz.results9, go_sem, q0]) rfl ⟨P2, rfl, hIx4, hb4⟩
end Go.Proofs.YtcjeddichookmaaGreatDoor
namespace Go.Proofs.YtcjeddichookmaaGreatDoor
open Go.ChangeShapes Go.WideShapes Go.ChangeAt Go.RowKit Go.ChangeMaps
theorem own : ownKnob Tryz.prog.godebug = none := by kernel_rfl
theorem laidOut : laidOutB Tryz.prog = true := by kernel_rfl
theorem env_of {W : World} (h : W.ShapedOpen Tryz.prog) : Env W :=
  Go.Proofs.cell_of_shapedOpen_int (zero := #[.int .i64 0]) (t := 3) h (of_decide_eq_true (by kernel_rfl)) (by kernel_rfl) rfl (by kernel_rfl) (by kernel_rfl) Tryz.underlying3
def laidCells (k : IntKind) (l : List Nat) : Obj → Obj
  | .cells _ t frozen => .cells (l.map fun (n : Nat) => Value.int k (n : Int)).toArray t frozen
  | o => o
noncomputable def laidWorld (os : Os) : World :=
  { World.holding Tryz.prog os ⟨#[], #[], []⟩ with heap := (((World.holding Tryz.prog os ⟨#[], #[], []⟩).heap.modify 3 (laidCells .u8 ([128, 191, 160, 191, 128, 159, 144, 191, 128, 143] ++ List.replicate 22 0))).modify 2 (laidCells .u8 Go.Pinned.utf8FirstZ)).modify 1 (laidCells .u32 Sha.ks) }
def ksI : List Int := Sha.ks.map fun n : Nat => (n : Int)
theorem ks_same : (Rows.laid_weirgate_hash_constants : DataW Unit) = Lib.tabData .u32 ksI := by kernel_rfl
theorem ks_of_tab {W : World} (h : Lib.TabIs Tryz.prog W "weirgate/hash.constants" .u32 ksI) : Ks W := by
  unfold Lib.TabIs World.var? at h
  rw [show Tryz.prog.globalNamed "weirgate/hash.constants" = some 1 by kernel_rfl] at h
  rw [Option.bind_some] at h
  split at h
  · rename_i cs t fr hc
    injection h with h
    refine ⟨t, fr, hc.trans ?_⟩
    rw [h]
    unfold ksI w32
    rw [List.map_map]
    rfl
  · cases h
theorem tab_of {W : World} {d1 : DataW Unit} {n1 : String} {rest : List (String × DataW Unit)} (h : laidMet Tryz.prog ((n1, d1) :: ("weirgate/hash.constants", Rows.laid_weirgate_hash_constants) :: rest) W) : Ks W := by
  have h2 := laidMet.tail h
  rw [ks_same] at h2
  exact ks_of_tab (Lib.tabIs_of_head (g := 1) (by kernel_rfl) (by kernel_rfl) Tryz.underlying144 Tryz.underlying100 (by kernel_rfl) (by kernel_rfl) h2)
end Go.Proofs.YtcjeddichookmaaGreatDoor
