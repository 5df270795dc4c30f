/- A tree divided at a key, and the node with a key: split, find. -/
import Derived.Test.YtokfclikhfpmhaaGreatDoorIZ20
import Derived.Test.YtokfclikhfpmhaaGreatDoorProg
import Derived.WalkKit
import Derived.WalkSpells
import Derived.WalkLawsBesides
import Derived.Below
import Derived.Deep.QuietTactic
import Derived.BigQuiet
import Derived.Lib.QuietBelow
import Derived.Lib.Strings
import Derived.Lib.Hide
import Derived.Deep.RegionWith
import Derived.Deep.RegionHeld3
import Derived.Lib.IndexBytes
import Derived.Test.YtokfclikhfpmhaaGreatDoorIZ18
import Derived.Test.YtokfclikhfpmhaaGreatDoorIZ9
import Derived.Deep.DeepCutAuto
namespace Go.Proofs.YtokfclikhfpmhaaGreatDoor
open Go.RowKit Go.Sort
set_option linter.unusedVariables false
set_option linter.unusedSimpArgs false
set_option maxRecDepth 100000
abbrev splT (k : ByteArray) (t : ITr) : ITr × ITr := Tr.split It.k ltB k t
theorem split_sub (k : ByteArray) : ∀ t : ITr, (∀ x ∈ Tr.toL (splT k t).1, x ∈ Tr.toL t) ∧ (∀ x ∈ Tr.toL (splT k t).2, x ∈ Tr.toL t) ∧ Tr.len (splT k t).1 + Tr.len (splT k t).2 = Tr.len t
  | .nil => ⟨fun _ h => h, fun _ h => h, rfl⟩
  | .node p x l r => by
    obtain ⟨l1, l2, l3⟩ := split_sub k l
    obtain ⟨r1, r2, r3⟩ := split_sub k r
    unfold splT at *
    rw [Tr.split]
    split
    · refine ⟨fun y hy => ?_, fun y hy => ?_, ?_⟩
      · simp only [Tr.toL, List.mem_append, List.mem_cons] at hy ⊢
        rcases hy with h | h | h
        · exact .inl h
        · exact .inr (.inl h)
        · exact .inr (.inr (r1 y h))
      · simp only [Tr.toL, List.mem_append, List.mem_cons] at hy ⊢
        exact .inr (.inr (r2 y hy))
      · simp only [Tr.len]; omega
    · refine ⟨fun y hy => ?_, fun y hy => ?_, ?_⟩
      · simp only [Tr.toL, List.mem_append, List.mem_cons] at hy ⊢
        exact .inl (l1 y hy)
      · simp only [Tr.toL, List.mem_append, List.mem_cons] at hy ⊢
        rcases hy with h | h | h
        · exact .inl (l2 y h)
        · exact .inr (.inl h)
        · exact .inr (.inr h)
      · simp only [Tr.len]; omega
theorem split_ok (k : ByteArray) {t : ITr} (h : TrOk t) : TrOk (splT k t).1 ∧ TrOk (splT k t).2 := by
  obtain ⟨h1, h2, h3⟩ := split_sub k t
  have := h.len
  exact ⟨⟨by omega, fun x hx => h.z x (h1 x hx)⟩, ⟨by omega, fun x hx => h.z x (h2 x hx)⟩⟩
def TrP2 (a b : ITr) (w : World) (e : Ending) (w' : World) : Prop := ∃ B C, e = .returned (.tuple #[.pointer B, .pointer C]) ∧ NodeAt w' a B ∧ NodeAt w' b C ∧ Below w.heap.size w w'
set_option maxHeartbeats 4000000 in
theorem treeSplit_any (k : ByteArray) (t : ITr) : ∀ (A : Option Addr) (w : World), NodeAt w t A → TrOk t → Calls Tryz.prog 60 #[.pointer A, .string k] w (TrP2 (splT k t).1 (splT k t).2 w) := by
  induction t with
  | nil =>
    intro A w hA _
    cases (show A = none from hA)
    go_enter Tryz.func60, Tryz.ntmps60
    go_wp2
    go_ret2
    exact ⟨none, none, rfl, rfl, rfl, belB⟩
  | node p x l r il ir =>
    intro A w hA ho
    obtain ⟨b, L, R, rfl, hl, hr2, hp, hr, c0, c1, c6, c7⟩ := hA.facts
    unfold splT at *
    rw [Tr.split]
    have hs1 := split_ok k ho.left
    have hs2 := split_ok k ho.right
    unfold splT at hs1 hs2
    cases hlt : ltB x.k k
    · have hj := il L w hl ho.left
      have hw1 := fun (W : World) (hb : Below w.heap.size w W) (P : Option Addr) (h : NodeAt W (Tr.split It.k ltB k l).2 P) => nodeWith_any p x l r (Tr.split It.k ltB k l).2 r _ P R W (NodeAt.keep hb hA) h (NodeAt.keep hb hr2) ho hs1.2 ho.right
      have HJ := Lib.hid hj; have HW := Lib.hid hw1
      rw [if_neg (by decide)]
      rw [← less_ltB] at hlt
      clear hj hw1 il ir hA hl hr2 hr ho hs1 hs2 hp
      generalize (Tr.split It.k ltB k l).1 = T1 at *
      generalize (Tr.split It.k ltB k l).2 = T2 at *
      go_enter Tryz.func60, Tryz.ntmps60
      go_wp2_with (first | (go_at_call 60; refine HJ.out.mono ?_; rintro e w2 ⟨P, Q, rfl, hP, hQ, hb2⟩; have y7 := cell_keep hb2 c7) | (go_at_call 95; refine (HW.out _ hb2 _ hQ).mono ?_; rintro e w3 ⟨P3, rfl, hP3, hb3⟩))
      go_ret2
      exact ⟨P, P3, rfl, NodeAt.keep hb3 hP, hP3, belB⟩
    · have hj := ir R w hr2 ho.right
      have hw1 := fun (W : World) (hb : Below w.heap.size w W) (P : Option Addr) (h : NodeAt W (Tr.split It.k ltB k r).1 P) => nodeWith_any p x l r l (Tr.split It.k ltB k r).1 _ L P W (NodeAt.keep hb hA) (NodeAt.keep hb hl) h ho ho.left hs2.1
      have HJ := Lib.hid hj; have HW := Lib.hid hw1
      rw [if_pos rfl]
      rw [← less_ltB] at hlt
      clear hj hw1 il ir hA hl hr2 hr ho hs1 hs2 hp
      generalize (Tr.split It.k ltB k r).1 = T1 at *
      generalize (Tr.split It.k ltB k r).2 = T2 at *
      go_enter Tryz.func60, Tryz.ntmps60
      go_wp2_with (first | (go_at_call 60; refine HJ.out.mono ?_; rintro e w2 ⟨P, Q, rfl, hP, hQ, hb2⟩; have y6 := cell_keep hb2 c6) | (go_at_call 95; refine (HW.out _ hb2 _ hP).mono ?_; rintro e w3 ⟨P3, rfl, hP3, hb3⟩))
      go_ret2
      exact ⟨P3, Q, rfl, hP3, NodeAt.keep hb3 hQ, belB⟩
end Go.Proofs.YtokfclikhfpmhaaGreatDoor
namespace Go.Proofs.YtokfclikhfpmhaaGreatDoor
open Go.RowKit Go.Sort
set_option linter.unusedVariables false
set_option linter.unusedSimpArgs false
set_option maxRecDepth 100000
abbrev findT (k : ByteArray) (t : ITr) : Option It := Tr.find It.k ltB k t
def cntOf (v : Value) (w : World) : Nat := match v with
  | .pointer (some a) => match w.cell? ⟨a.block, 8, none⟩ with
    | some (.int _ n) => n.toNat
    | _ => 0
  | _ => 0
theorem cnt_eq {w : World} {t : ITr} {P : Option Addr} (h : NodeAt w t P) : cntOf (.pointer P) w = Tr.len t := by
  cases t with
  | nil => cases (show P = none from h); rfl
  | node p x l r =>
    obtain ⟨b, L, R, rfl, hp, hr, _, _⟩ := h
    unfold cntOf
    dsimp only
    rw [hr.cell (k := 8) rfl]
    simp
def FindAt (o : Option It) (P : Option Addr) (W : World) : Prop := match o with
  | none => P = none
  | some x => ∃ p l r, NodeAt W (.node p x l r) P
set_option maxHeartbeats 4000000 in
theorem treeFind_any (k : ByteArray) (t : ITr) (A : Option Addr) (w : World) (hA : NodeAt w t A) : Calls Tryz.prog 58 #[.pointer A, .string k] w (fun e w' => ∃ P, e = .returned (.pointer P) ∧ FindAt (findT k t) P w' ∧ Below w.heap.size w w') := by
  have HA := Lib.hid hA
  clear hA
  go_enter Tryz.func58, Tryz.ntmps58
  go_wp2
  go_loopw [0] (fun v wr => ∃ (P : Option Addr) (t' : ITr), v = .pointer P ∧ Hid (NodeAt wr t' P ∧ findT k t = findT k t') ∧ Below w.heap.size w wr) (fun v wr => cntOf v wr)
  case atStart => exact ⟨A, t, rfl, Lib.hid ⟨HA.out, rfl⟩, Below.refl _ _⟩
  case round =>
    obtain ⟨P, t', rfl, HN, hb⟩ := hrel
    obtain ⟨hn, hf⟩ := HN.out
    cases t' with
    | nil =>
      cases (show P = none from hn)
      have hv : findT k t = none := hf
      have HV := Lib.hid hv
      clear hf hv hn HN
      go_wp2
      go_ret
      rw [HV.out]
      exact ⟨none, rfl, rfl, belB⟩
    | node p x l r =>
      have hcn := cnt_eq hn
      obtain ⟨b, L, R, rfl, hl, hr2, hp, hr, c0, c1, c6, c7⟩ := hn.facts
      by_cases he : x.k = k
      · have hv : findT k t = some x := by rw [hf]; simp [findT, Tr.find, he]
        have HV := Lib.hid hv; have HNN := Lib.hid hn
        have hq : (x.k.toList == k.toList) = true := by rw [he]; simp
        have hq2 : x.k.toList = k.toList := by rw [he]
        clear hf hv hn HN hl hr2 hp hr c0 c6 c7 he hcn
        go_wp2
        go_ret
        rw [HV.out]
        exact ⟨_, rfl, ⟨p, l, r, HNN.out⟩, belB⟩
      · have hq : (x.k.toList == k.toList) = false := by rw [beq_dec]; simpa using he
        have hq2 : ¬ x.k.toList = k.toList := by simpa using hq
        cases hlt : ltB k x.k
        · have hv : findT k t = findT k r := by rw [hf]; simp [findT, Tr.find, he, hlt]
          have hc2 := cnt_eq hr2
          have hdec : cntOf (.pointer R) wr < cntOf (.pointer (some ⟨b, 0, none⟩)) wr := by rw [hcn, hc2]; simp only [Tr.len]; omega
          have HV := Lib.hid (show NodeAt wr r R ∧ findT k t = findT k r from ⟨hr2, hv⟩); have HD := Lib.hid hdec
          rw [← less_ltB] at hlt
          clear hf hv hn HN hl hr2 hp hr c0 he hcn hc2 hdec
          go_wp2
          exact ⟨⟨R, r, rfl, HV, hb⟩, HD.out⟩
        · have hv : findT k t = findT k l := by rw [hf]; simp [findT, Tr.find, he, hlt]
          have hc2 := cnt_eq hl
          have hdec : cntOf (.pointer L) wr < cntOf (.pointer (some ⟨b, 0, none⟩)) wr := by rw [hcn, hc2]; simp only [Tr.len]; omega
          have HV := Lib.hid (show NodeAt wr l L ∧ findT k t = findT k l from ⟨hl, hv⟩); have HD := Lib.hid hdec
          rw [← less_ltB] at hlt
          clear hf hv hn HN hl hr2 hp hr c0 he hcn hc2 hdec
          go_wp2
          exact ⟨⟨L, l, rfl, HV, hb⟩, HD.out⟩
end Go.Proofs.YtokfclikhfpmhaaGreatDoor
namespace Go.Proofs.YtokfclikhfpmhaaGreatDoor
open Go.RowKit Go.Sort
set_option linter.unusedVariables false
set_option linter.unusedSimpArgs false
set_option maxRecDepth 100000
def StrR (w : World) (g : Nat) (m : List Nat) : Prop := ∃ X, StrV m (.agg X) ∧ w.heap[g]? = some (.cells X 173 (0, 0)) ∧ X.size = 73
theorem StrR.lt {w : World} {g : Nat} {m : List Nat} (h : StrR w g m) : g < w.heap.size := by
  obtain ⟨X, _, h, _⟩ := h
  rcases Nat.lt_or_ge g w.heap.size with hl | hl
  · exact hl
  · rw [Array.getElem?_eq_none hl] at h; cases h
theorem StrR.keep {w w' : World} {g : Nat} {m : List Nat} (h : StrR w g m) (hb : Below w.heap.size w w') : StrR w' g m := by
  have hl := h.lt
  obtain ⟨X, hv, h, hs⟩ := h
  exact ⟨X, hv, (hb.block g hl).trans h, hs⟩
theorem strV_agg {m : List Nat} {v : Value} (h : StrV m v) : ∃ X, v = .agg X ∧ X.size = 73 ∧ X.all (·.oneCell') = true := by
  obtain ⟨st, blk, rfl, hst, _⟩ := h
  exact ⟨_, rfl, by rw [List.size_toArray, strLH_len hst.len], by rw [List.all_toArray, List.all_eq_true]; exact strL_one⟩
theorem inf73 : (Tryz.prog.info? 173).map (·.size) = some 73 := by kernel_rfl
theorem zero73s : Tryz.zeroCells173.size = 73 := by kernel_rfl
def D1 (tag B : Nat) (j : Nat) (v : Value) (w : World) : Prop :=
  match j with
  | 0 => StrV [] v
  | 1 => v = .int .i64 (tag : Int)
  | 2 => v = .int .u8 (tag : Int)
  | 3 => ∃ b, v = .slice (some ⟨b, 0, none⟩) 1 1 ∧ w.cell? ⟨b, 0, none⟩ = some (.int .u8 (tag : Int))
  | 4 => v = .string (toN [tag])
  | 5 => StrV [tag] v
  | 6 => ∃ g, v = .pointer (some ⟨g, 0, none⟩) ∧ B ≤ g ∧ w.heap[g]? = some (.cells Tryz.zeroCells173 173 (0, 0))
  | _ => True
theorem heap_keep {w w' : World} {g : Nat} {o : Obj} (h : w.heap[g]? = some o) (hb : Below w.heap.size w w') : w'.heap[g]? = some o := by
  refine (hb.block g ?_).trans h
  rcases Nat.lt_or_ge g w.heap.size with hl | hl
  · exact hl
  · rw [Array.getElem?_eq_none hl] at h; cases h
theorem D1.keep {tag B : Nat} (j : Nat) (v : Value) (w w' : World) (h : D1 tag B j v w) (hb : Below w.heap.size w w') : D1 tag B j v w' := by
  unfold D1 at h
  split at h
  all_goals first
    | exact h
    | (obtain ⟨b, e, hc⟩ := h; exact ⟨b, e, cell_keep hb hc⟩)
    | (obtain ⟨g, e, hg, hx⟩ := h; exact ⟨g, e, hg, heap_keep hx hb⟩)
    | (unfold D1; split <;> first | trivial | (exfalso; simp_all; done))
def D2 (m : List Nat) (x : ByteArray) (j : Nat) (v : Value) (w : World) : Prop :=
  match j with
  | 0 => StrV m v
  | 1 => v = .string x
  | 2 => ∃ A c, v = .slice A (Sha.wireB (nb x)).length c ∧ Reads w 1 A (Sha.wireB (nb x)).length (b8 (Sha.wireB (nb x)))
  | 3 => v = .string (toN (Sha.wireB (nb x)))
  | 4 => StrV (m ++ Sha.wireB (nb x)) v
  | _ => True
theorem D2.keep {m : List Nat} {x : ByteArray} (j : Nat) (v : Value) (w w' : World) (h : D2 m x j v w) (hb : Below w.heap.size w w') : D2 m x j v w' := by
  unfold D2 at h
  split at h
  all_goals first
    | exact h
    | (obtain ⟨A, c, e, hR⟩ := h; exact ⟨A, c, e, hR.keep hb⟩)
    | (unfold D2; split <;> first | trivial | (exfalso; simp_all; done))
theorem wireB_len (s : ByteArray) : 0 < (Sha.wireB (nb s)).length ∧ (Sha.wireB (nb s)).length ≤ 11 + s.size := by
  unfold Sha.wireB
  rw [List.length_append, nb_len]
  have := Sha.vint_len (2 * s.size)
  refine ⟨?_, by omega⟩
  have : 0 < (Sha.vint (2 * s.size)).length := by
    unfold Sha.vint Sha.vintF
    split <;> simp
  omega
def heard (tag : Nat) (ps : List ByteArray) (k : Nat) : List Nat := Sha.input tag ((ps.take k).map nb)
theorem heard_zero (tag : Nat) (ps : List ByteArray) : heard tag ps 0 = [tag] := rfl
theorem heard_succ (tag : Nat) {ps : List ByteArray} {k : Nat} {x : ByteArray} (hx : ps[k]? = some x) : heard tag ps (k + 1) = heard tag ps k ++ Sha.wireB (nb x) := by
  unfold heard Sha.input
  rw [List.take_add_one, hx]
  simp
theorem heard_len (tag : Nat) (ps : List ByteArray) (hs : ∀ s ∈ ps, s.size ≤ 1000000) : ∀ k, k ≤ ps.length → (heard tag ps k).length ≤ 1 + k * 1000011
  | 0, _ => by rw [heard_zero]; simp
  | k + 1, hk => by
    have hx : ps[k]? = some ps[k] := List.getElem?_eq_getElem (by omega)
    have h1 := heard_len tag ps hs k (by omega)
    have h2 := hs _ (List.getElem_mem (show k < ps.length by omega))
    have h3 := (wireB_len ps[k]).2
    rw [heard_succ tag hx, List.length_append, Nat.add_mul]
    omega
theorem heard_all (tag : Nat) (ps : List ByteArray) : heard tag ps ps.length = Sha.input tag (ps.map nb) := by
  unfold heard
  rw [List.take_of_length_le (Nat.le_refl _)]
end Go.Proofs.YtokfclikhfpmhaaGreatDoor
namespace Go.Proofs.YtokfclikhfpmhaaGreatDoor
open Go.RowKit Go.Sort
set_option linter.unusedVariables false
set_option linter.unusedSimpArgs false
set_option maxRecDepth 100000
def ReadBox (w : World) (g : Nat) (c : ByteArray) (A : Option Addr) (na ca : Nat) (B : Option Addr) (nb cb : Nat) (e : Int) : Prop := Blk w g 83 #[.string c, .slice A na ca, .slice B nb cb, .int .i64 e] (0, 0)
theorem ReadBox.facts {w : World} {g : Nat} {c : ByteArray} {A B : Option Addr} {na ca nb cb : Nat} {e : Int} (h : ReadBox w g c A na ca B nb cb e) :
    w.cell? ⟨g, 0, none⟩ = some (.string c) ∧ w.cell? ⟨g, 1, none⟩ = some (.slice A na ca) ∧ w.cell? ⟨g, 2, none⟩ = some (.slice B nb cb) ∧ w.cell? ⟨g, 3, none⟩ = some (.int .i64 e) ∧
      w.frozen? ⟨g, 0, none⟩ = false ∧ w.frozen? ⟨g, 1, none⟩ = false ∧ w.frozen? ⟨g, 2, none⟩ = false ∧ w.frozen? ⟨g, 3, none⟩ = false :=
  ⟨Blk.cell h 0, Blk.cell h 1, Blk.cell h 2, Blk.cell h 3, blk_free0 h 0, blk_free0 h 1, blk_free0 h 2, blk_free0 h 3⟩
def RReadPost (r : Adr × Int) (w : World) (e : Ending) (w' : World) : Prop :=
  Below w.heap.size w w' ∧ ∃ A ca B cb, e = .returned (.agg #[.string r.1.cust, .slice A r.1.path.length ca, .slice B r.1.query.length cb, .int .i64 r.2]) ∧ Reads w' 1 A r.1.path.length (r.1.path.map .string) ∧ Reads w' 2 B r.1.query.length (pairCells r.1.query)
theorem RReadPost.err {w w' : World} {er : Int} (hb : Below w.heap.size w w') : RReadPost (noAdr, er) w (.returned (.agg #[.string ⟨#[]⟩, .slice none 0 0, .slice none 0 0, .int .i64 er])) w' := ⟨hb, none, 0, none, 0, rfl, Reads.nil_ _ _ _, Reads.nil_ _ _ _⟩
theorem RPathPost.some_ {rr : Option (List ByteArray)} {X w' : World} {e : Ending} (h : RPathPost rr X e w') : Below X.heap.size X w' ∧ ∃ A c, e = .returned (.tuple #[.slice A (rr.getD []).length c, .bool rr.isSome]) ∧ Reads w' 1 A (rr.getD []).length ((rr.getD []).map .string) ∧ (∀ a, A = some a → X.heap.size ≤ a.block) := by
  obtain ⟨hb, h⟩ := h
  cases rr with
  | none => exact ⟨hb, none, 0, h, Reads.nil_ _ _ _, fun a ha => (by cases ha)⟩
  | some p => exact ⟨hb, h⟩
theorem reads_tail {w : World} {b o n c : Nat} {x : Value} {vs : List Value} (h : Reads w 1 (some ⟨b, o, none⟩) (n + 1) (x :: vs)) (A' : Option Addr) (hA : c ≠ 1 → A' = some ⟨b, o + 1, none⟩) (hc : n + 1 ≤ c) : Reads w 1 A' n vs := by
  refine ⟨by have := h.1; simp at this ⊢; omega, fun hn => ?_⟩
  obtain ⟨b2, o2, e, hcell⟩ := h.2 (by omega)
  injection e with e
  injection e with e1 e2
  subst e1; subst e2
  refine ⟨b, o + 1, hA (by omega), fun j u hu => ?_⟩
  have := hcell (j + 1) u (by simpa using hu)
  rwa [show o + 1 + j = o + (j + 1) by omega]
set_option maxHeartbeats 4000000 in
theorem rParse_core (s Lb L Q T C : ByteArray) (r : List ByteArray) (b1 nm : Bool) (rr : Option (List ByteArray)) (qq : Option (List (ByteArray × ByteArray))) (w : World) (hs : s.size ≤ 4096) (hL : L.size ≤ 100000)
    (hsel : (L.size = 0 ∧ T = L) ∨ (∃ j, ∃ hj : j < L.size, L.size = j + 1 ∧ (L[j].toNat == 47) = false ∧ T = L) ∨ (∃ j, ∃ hj : j < L.size, L.size = j + 1 ∧ (L[j].toNat == 47) = true ∧ T = L.extract 0 j))
    (hrl : r.length ≤ 1000000)
    (HL : Hid (∀ W, Calls Tryz.prog 73 #[.string s] W (Ret W (.string Lb))))
    (HC : Hid (∀ W, Calls Tryz.prog 72 #[.string Lb, .int .u8 63] W (Ret W (.tuple #[.string L, .string Q, .bool b1]))))
    (HS0 : Hid (∀ W, Calls Tryz.prog 74 #[.string T, .int .u8 47] W (OwnPost (C :: r) W)))
    (HN : Hid (∀ W, Calls Tryz.prog 75 #[.string C] W (Ret W (.bool nm))))
    (HP0 : Hid (∀ A c W, Reads W 1 A r.length (r.map .string) → Calls Tryz.prog 76 #[.slice A r.length c] W (RPathPost rr W)))
    (HQ : Hid (∀ W, Calls Tryz.prog 77 #[.string Q] W (PairsPost qq W))) :
    Calls Tryz.prog 43 #[.string s] w (RReadPost (adrOf C nm rr qq) w) := by
  obtain ⟨ps, np, o1, hps, hnp, ho1⟩ : ∃ ps np o1, ps = rr.getD [] ∧ np = (rr.getD []).length ∧ o1 = rr.isSome := ⟨_, _, _, rfl, rfl, rfl⟩
  obtain ⟨qs, nq, o2, hqs, hnq, ho2⟩ : ∃ qs nq o2, qs = qq.getD [] ∧ nq = (qq.getD []).length ∧ o2 = qq.isSome := ⟨_, _, _, rfl, rfl, rfl⟩
  have HPs : Hid (∀ X e w', RPathPost rr X e w' → Below X.heap.size X w' ∧ ∃ A c, e = .returned (.tuple #[.slice A np c, .bool o1]) ∧ Reads w' 1 A np (ps.map .string) ∧ (∀ a, A = some a → X.heap.size ≤ a.block)) := Lib.hid (fun X e w' h => by rw [hps, hnp, ho1]; exact h.some_)
  have HQs : Hid (∀ X e w', PairsPost qq X e w' → Below X.heap.size X w' ∧ ∃ A c, e = .returned (.tuple #[.slice A nq c, .bool o2]) ∧ Reads w' 2 A nq (pairCells qs) ∧ ∀ a, A = some a → X.heap.size ≤ a.block) := Lib.hid (fun X e w' h => by rw [hqs, hnq, ho2]; exact h.some_)
  have hv : adrOf C nm rr qq = if nm && o1 && o2 then (if np ≤ 32 ∧ nq ≤ 16 then (⟨C, ps, qs⟩, 0) else (noAdr, 2)) else (noAdr, 3) := by
    rw [hps, hnp, ho1, hqs, hnq, ho2]
    cases nm <;> cases rr <;> cases qq <;> simp [adrOf]
  rw [hv]
  have HPL : Hid (ps.length = np) := Lib.hid (by rw [hps, hnp])
  have HQL : Hid (qs.length = nq) := Lib.hid (by rw [hqs, hnq])
  clear hv hps hnp ho1 hqs hnq ho2
  obtain ⟨m, hm⟩ : ∃ m, m = r.length := ⟨_, rfl⟩
  have HS : Hid (∀ W, Calls Tryz.prog 74 #[.string T, .int .u8 47] W (fun e w' => ∃ A c, e = .returned (.slice A (m + 1) c) ∧ w'.ownsRow W.heap.size 9 1 (.slice A (m + 1) c) (m + 1) ((C :: r).map .string) ∧ Below W.heap.size W w')) := Lib.hid (by rw [hm]; exact HS0.out)
  have HPT : Hid (∀ A c W, Reads W 1 A m (r.map .string) → Calls Tryz.prog 76 #[.slice A m c] W (RPathPost rr W)) := Lib.hid (by rw [hm]; exact HP0.out)
  have hm9 : m ≤ 1000000 := by omega
  clear HS0 HP0 hm hrl
  have hd : decide ((4096 : Int) < (s.size : Int)) = false := by simp; omega
  generalize hV : RReadPost (if nm && o1 && o2 then (if np ≤ 32 ∧ nq ≤ 16 then (⟨C, ps, qs⟩, 0) else (noAdr, 2)) else (noAdr, 3)) w = V
  have HV := Lib.hid hV
  have HSEL := Lib.hid hsel
  clear hV hsel
  go_enter Tryz.func43, Tryz.ntmps43
  obtain ⟨t, ht⟩ : ∃ t, (t = false ∧ T = L) ∨ (t = true ∧ ∃ j, L.size = j + 1 ∧ T = L.extract 0 j) := by
    rcases HSEL.out with ⟨h0, h⟩ | ⟨j, hj, h0, hb47, h⟩ | ⟨j, hj, h0, hb47, h⟩
    · exact ⟨false, .inl ⟨rfl, h⟩⟩
    · exact ⟨false, .inl ⟨rfl, h⟩⟩
    · exact ⟨true, .inr ⟨rfl, j, h0, h⟩⟩
  have HT := Lib.hid ht
  have hsel2 : (L.size = 0 ∧ t = false) ∨ ∃ j, ∃ hj : j < L.size, L.size = j + 1 ∧ (L[j].toNat == 47) = t := by
    rcases HSEL.out with ⟨h0, h⟩ | ⟨j, hj, h0, hb47, h⟩ | ⟨j, hj, h0, hb47, h⟩
    · refine .inl ⟨h0, ?_⟩
      rcases ht with ⟨h, _⟩ | ⟨_, j, h, _⟩
      · exact h
      · omega
    · refine .inr ⟨j, hj, h0, ?_⟩
      rcases ht with ⟨h1, _⟩ | ⟨_, k, h1, h2⟩
      · rw [h1, hb47]
      · rw [h] at h2
        have := congrArg ByteArray.size h2
        rw [ByteArray.size_extract] at this
        omega
    · refine .inr ⟨j, hj, h0, ?_⟩
      rcases ht with ⟨_, h2⟩ | ⟨h1, _⟩
      · rw [h] at h2
        have := congrArg ByteArray.size h2
        rw [ByteArray.size_extract] at this
        omega
      · rw [h1, hb47]
  have HSEL2 := Lib.hid hsel2
  clear hsel2 ht HSEL
  go_upto_region 4 with (first | (go_at_call 73; refine (HL.out _).mono ?_; rintro e w1 ⟨rfl, hb1⟩; have hX1 : ReadBox w1 w.heap.size ⟨#[]⟩ none 0 0 none 0 0 0 := Blk.keep (World.alloc_heap_new _ _) hb1) | (go_at_call 72; refine (HC.out _).mono ?_; rintro e w2 ⟨rfl, hb2⟩; have hX2 : ReadBox w2 w.heap.size ⟨#[]⟩ none 0 0 none 0 0 0 := Blk.keep hX1 hb2))
  go_cut [32] (fun c wx => c = .bool t ∧ wx = w2)
  case first =>
    rcases HSEL2.out with ⟨h0, rfl⟩ | ⟨j, hj, h0, hb47⟩
    · go_wp2_with fail
      go_meet
      exact ⟨rfl, rfl⟩
    · have hby := byte_int L[j] 47
      rw [hb47] at hby
      have hq0 : (0 : Int) < (L.size : Int) := by omega
      have hq1 : (L.size : Int) - 1 = (j : Int) := by omega
      clear hb47
      go_wp2_with fail
      go_meet
      exact ⟨congrArg Value.bool hby, rfl⟩
  case rest =>
    obtain ⟨rfl, rfl⟩ := hcut
    go_upto_if 32 with fail
    go_cut [3] (fun c wx => c = .string T ∧ wx = wc)
    case first =>
      rcases HT.out with ⟨rfl, rfl⟩ | ⟨rfl, j, hj, rfl⟩
      · go_wp2_with fail
        go_meet
        exact ⟨rfl, rfl⟩
      · have hq0 : (0 : Int) ≤ (j : Int) := by omega
        have hq1 : (L.size : Int) - 1 = (j : Int) := by omega
        have hq2 : (j : Int) ≤ (L.size : Int) := by omega
        go_wp2_with fail
        go_meet
        exact ⟨rfl, rfl⟩
    case rest =>
    obtain ⟨rfl, rfl⟩ := hcut
    have hXc := hX2
    have hbc : Below w.heap.size w wc := belB
    clear hX1 hX2 hb1 hb2 HSEL2 HT
    cases nm
    · have HV2 := HV.out
      simp only [Bool.false_and, Bool.false_eq_true, if_false] at HV2
      go_wp2_with (first | (go_at_call 74; refine (HS.out _).mono ?_; rintro e w3 ⟨A, c, rfl, hown, hb3⟩; have hX3 : ReadBox w3 w.heap.size ⟨#[]⟩ none 0 0 none 0 0 0 := Blk.keep hXc hb3; obtain ⟨pb, po, u, rfl, hu, g0⟩ := (Reads.of_own hown).at_ (k := 0) (by omega); (obtain rfl : u = .string C := (by simpa using hu.symm)); clear hu; have gg : w3.cell? ⟨pb, po, none⟩ = some (.string C) := g0; clear g0; have HR := Lib.hid (Reads.of_own hown); have hcap := ownsRow_cap hown; clear hown; have hm0 : (0 : Int) < (m : Int) + 1 := (by omega); have hm1 : (1 : Int) ≤ (m : Int) + 1 := (by omega); have hm2 : (m : Int) + 1 ≤ (c : Int) := (by omega)) | (go_at_call 75; refine (HN.out _).mono ?_; rintro e w4 ⟨rfl, hb4⟩; have hX4 : ReadBox w4 w.heap.size ⟨#[]⟩ none 0 0 none 0 0 0 := Blk.keep hX3 hb4; have gg4 := cell_keep hb4 gg; obtain ⟨x0, x1, x2, x3, f0, f1, f2, f3⟩ := hX4.facts; have hz4 : w.heap.size < w4.heap.size := Blk.lt hX4) | (go_at_call 76; refine (HPT.out _ _ _ (reads_tail ((HR.out.keep belB)) _ (fun h => (by simp [h])) hcap)).mono ?_; rintro e w5 hp5; obtain ⟨hb5, PA, Pc, rfl, hPR, hPA⟩ := HPs.out _ _ _ hp5; clear hp5; have hX5 : ReadBox w5 w.heap.size ⟨#[]⟩ none 0 0 none 0 0 0 := Blk.keep hX4 hb5; have gg5 := cell_keep hb5 gg4) | (go_at_call 77; refine (HQ.out _).mono ?_; rintro e w6 hq6; obtain ⟨hb6, QA, Qc, rfl, hQR, hQA⟩ := HQs.out _ _ _ hq6; clear hq6; have hX6 : ReadBox w6 w.heap.size ⟨#[]⟩ none 0 0 none 0 0 0 := Blk.keep hX5 hb6; have gg6 := cell_keep hb6 gg5; clear x0 x1 x2 x3 f0 f1 f2 f3; obtain ⟨x0, x1, x2, x3, f0, f1, f2, f3⟩ := hX6.facts; have hz6 : w.heap.size < w6.heap.size := Blk.lt hX6))
      all_goals (rw [← HV2]; exact bodyPost_ret (v := .agg #[.string ⟨#[]⟩, .slice none 0 0, .slice none 0 0, .int .i64 3]) (by simp [results, Tryz.results43, go_sem, hz4, x0, x1, x2, x3, f0, f1, f2, f3]) rfl (RReadPost.err belB))
    cases o1
    · have HV2 := HV.out
      simp only [Bool.false_and, Bool.and_false, Bool.false_eq_true, if_false] at HV2
      go_wp2_with (first | (go_at_call 74; refine (HS.out _).mono ?_; rintro e w3 ⟨A, c, rfl, hown, hb3⟩; have hX3 : ReadBox w3 w.heap.size ⟨#[]⟩ none 0 0 none 0 0 0 := Blk.keep hXc hb3; obtain ⟨pb, po, u, rfl, hu, g0⟩ := (Reads.of_own hown).at_ (k := 0) (by omega); (obtain rfl : u = .string C := (by simpa using hu.symm)); clear hu; have gg : w3.cell? ⟨pb, po, none⟩ = some (.string C) := g0; clear g0; have HR := Lib.hid (Reads.of_own hown); have hcap := ownsRow_cap hown; clear hown; have hm0 : (0 : Int) < (m : Int) + 1 := (by omega); have hm1 : (1 : Int) ≤ (m : Int) + 1 := (by omega); have hm2 : (m : Int) + 1 ≤ (c : Int) := (by omega)) | (go_at_call 75; refine (HN.out _).mono ?_; rintro e w4 ⟨rfl, hb4⟩; have hX4 : ReadBox w4 w.heap.size ⟨#[]⟩ none 0 0 none 0 0 0 := Blk.keep hX3 hb4; have gg4 := cell_keep hb4 gg; obtain ⟨x0, x1, x2, x3, f0, f1, f2, f3⟩ := hX4.facts; have hz4 : w.heap.size < w4.heap.size := Blk.lt hX4) | (go_at_call 76; refine (HPT.out _ _ _ (reads_tail ((HR.out.keep belB)) _ (fun h => (by simp [h])) hcap)).mono ?_; rintro e w5 hp5; obtain ⟨hb5, PA, Pc, rfl, hPR, hPA⟩ := HPs.out _ _ _ hp5; clear hp5; have hX5 : ReadBox w5 w.heap.size ⟨#[]⟩ none 0 0 none 0 0 0 := Blk.keep hX4 hb5; have gg5 := cell_keep hb5 gg4) | (go_at_call 77; refine (HQ.out _).mono ?_; rintro e w6 hq6; obtain ⟨hb6, QA, Qc, rfl, hQR, hQA⟩ := HQs.out _ _ _ hq6; clear hq6; have hX6 : ReadBox w6 w.heap.size ⟨#[]⟩ none 0 0 none 0 0 0 := Blk.keep hX5 hb6; have gg6 := cell_keep hb6 gg5; clear x0 x1 x2 x3 f0 f1 f2 f3; obtain ⟨x0, x1, x2, x3, f0, f1, f2, f3⟩ := hX6.facts; have hz6 : w.heap.size < w6.heap.size := Blk.lt hX6))
      all_goals (rw [← HV2]; exact bodyPost_ret (v := .agg #[.string ⟨#[]⟩, .slice none 0 0, .slice none 0 0, .int .i64 3]) (by simp [results, Tryz.results43, go_sem, hz6, x0, x1, x2, x3, f0, f1, f2, f3]) rfl (RReadPost.err belB))
    cases o2
    · have HV2 := HV.out
      simp only [Bool.false_and, Bool.and_false, Bool.false_eq_true, if_false] at HV2
      go_wp2_with (first | (go_at_call 74; refine (HS.out _).mono ?_; rintro e w3 ⟨A, c, rfl, hown, hb3⟩; have hX3 : ReadBox w3 w.heap.size ⟨#[]⟩ none 0 0 none 0 0 0 := Blk.keep hXc hb3; obtain ⟨pb, po, u, rfl, hu, g0⟩ := (Reads.of_own hown).at_ (k := 0) (by omega); (obtain rfl : u = .string C := (by simpa using hu.symm)); clear hu; have gg : w3.cell? ⟨pb, po, none⟩ = some (.string C) := g0; clear g0; have HR := Lib.hid (Reads.of_own hown); have hcap := ownsRow_cap hown; clear hown; have hm0 : (0 : Int) < (m : Int) + 1 := (by omega); have hm1 : (1 : Int) ≤ (m : Int) + 1 := (by omega); have hm2 : (m : Int) + 1 ≤ (c : Int) := (by omega)) | (go_at_call 75; refine (HN.out _).mono ?_; rintro e w4 ⟨rfl, hb4⟩; have hX4 : ReadBox w4 w.heap.size ⟨#[]⟩ none 0 0 none 0 0 0 := Blk.keep hX3 hb4; have gg4 := cell_keep hb4 gg; obtain ⟨x0, x1, x2, x3, f0, f1, f2, f3⟩ := hX4.facts; have hz4 : w.heap.size < w4.heap.size := Blk.lt hX4) | (go_at_call 76; refine (HPT.out _ _ _ (reads_tail ((HR.out.keep belB)) _ (fun h => (by simp [h])) hcap)).mono ?_; rintro e w5 hp5; obtain ⟨hb5, PA, Pc, rfl, hPR, hPA⟩ := HPs.out _ _ _ hp5; clear hp5; have hX5 : ReadBox w5 w.heap.size ⟨#[]⟩ none 0 0 none 0 0 0 := Blk.keep hX4 hb5; have gg5 := cell_keep hb5 gg4) | (go_at_call 77; refine (HQ.out _).mono ?_; rintro e w6 hq6; obtain ⟨hb6, QA, Qc, rfl, hQR, hQA⟩ := HQs.out _ _ _ hq6; clear hq6; have hX6 : ReadBox w6 w.heap.size ⟨#[]⟩ none 0 0 none 0 0 0 := Blk.keep hX5 hb6; have gg6 := cell_keep hb6 gg5; clear x0 x1 x2 x3 f0 f1 f2 f3; obtain ⟨x0, x1, x2, x3, f0, f1, f2, f3⟩ := hX6.facts; have hz6 : w.heap.size < w6.heap.size := Blk.lt hX6))
      all_goals (rw [← HV2]; exact bodyPost_ret (v := .agg #[.string ⟨#[]⟩, .slice none 0 0, .slice none 0 0, .int .i64 3]) (by simp [results, Tryz.results43, go_sem, hz6, x0, x1, x2, x3, f0, f1, f2, f3]) rfl (RReadPost.err belB))
    have HV1 := HV.out
    simp only [Bool.and_self, if_true] at HV1
    by_cases hnp : np ≤ 32
    rotate_left
    · have HV2 := HV1
      rw [if_neg (fun h => hnp h.1)] at HV2
      have hd1 : decide ((32 : Int) < (np : Int)) = true := by simp; omega
      clear HV1
      go_wp2_with (first | (go_at_call 74; refine (HS.out _).mono ?_; rintro e w3 ⟨A, c, rfl, hown, hb3⟩; have hX3 : ReadBox w3 w.heap.size ⟨#[]⟩ none 0 0 none 0 0 0 := Blk.keep hXc hb3; obtain ⟨pb, po, u, rfl, hu, g0⟩ := (Reads.of_own hown).at_ (k := 0) (by omega); (obtain rfl : u = .string C := (by simpa using hu.symm)); clear hu; have gg : w3.cell? ⟨pb, po, none⟩ = some (.string C) := g0; clear g0; have HR := Lib.hid (Reads.of_own hown); have hcap := ownsRow_cap hown; clear hown; have hm0 : (0 : Int) < (m : Int) + 1 := (by omega); have hm1 : (1 : Int) ≤ (m : Int) + 1 := (by omega); have hm2 : (m : Int) + 1 ≤ (c : Int) := (by omega)) | (go_at_call 75; refine (HN.out _).mono ?_; rintro e w4 ⟨rfl, hb4⟩; have hX4 : ReadBox w4 w.heap.size ⟨#[]⟩ none 0 0 none 0 0 0 := Blk.keep hX3 hb4; have gg4 := cell_keep hb4 gg; obtain ⟨x0, x1, x2, x3, f0, f1, f2, f3⟩ := hX4.facts; have hz4 : w.heap.size < w4.heap.size := Blk.lt hX4) | (go_at_call 76; refine (HPT.out _ _ _ (reads_tail ((HR.out.keep belB)) _ (fun h => (by simp [h])) hcap)).mono ?_; rintro e w5 hp5; obtain ⟨hb5, PA, Pc, rfl, hPR, hPA⟩ := HPs.out _ _ _ hp5; clear hp5; have hX5 : ReadBox w5 w.heap.size ⟨#[]⟩ none 0 0 none 0 0 0 := Blk.keep hX4 hb5; have gg5 := cell_keep hb5 gg4) | (go_at_call 77; refine (HQ.out _).mono ?_; rintro e w6 hq6; obtain ⟨hb6, QA, Qc, rfl, hQR, hQA⟩ := HQs.out _ _ _ hq6; clear hq6; have hX6 : ReadBox w6 w.heap.size ⟨#[]⟩ none 0 0 none 0 0 0 := Blk.keep hX5 hb6; have gg6 := cell_keep hb6 gg5; clear x0 x1 x2 x3 f0 f1 f2 f3; obtain ⟨x0, x1, x2, x3, f0, f1, f2, f3⟩ := hX6.facts; have hz6 : w.heap.size < w6.heap.size := Blk.lt hX6))
      all_goals (rw [← HV2]; exact bodyPost_ret (v := .agg #[.string ⟨#[]⟩, .slice none 0 0, .slice none 0 0, .int .i64 2]) (by simp [results, Tryz.results43, go_sem, hz6, x0, x1, x2, x3, f0, f1, f2, f3]) rfl (RReadPost.err belB))
    have hd1 : decide ((32 : Int) < (np : Int)) = false := by simp; omega
    by_cases hnq : nq ≤ 16
    rotate_left
    · have HV2 := HV1
      rw [if_neg (fun h => hnq h.2)] at HV2
      have hd2 : decide ((16 : Int) < (nq : Int)) = true := by simp; omega
      clear HV1
      go_wp2_with (first | (go_at_call 74; refine (HS.out _).mono ?_; rintro e w3 ⟨A, c, rfl, hown, hb3⟩; have hX3 : ReadBox w3 w.heap.size ⟨#[]⟩ none 0 0 none 0 0 0 := Blk.keep hXc hb3; obtain ⟨pb, po, u, rfl, hu, g0⟩ := (Reads.of_own hown).at_ (k := 0) (by omega); (obtain rfl : u = .string C := (by simpa using hu.symm)); clear hu; have gg : w3.cell? ⟨pb, po, none⟩ = some (.string C) := g0; clear g0; have HR := Lib.hid (Reads.of_own hown); have hcap := ownsRow_cap hown; clear hown; have hm0 : (0 : Int) < (m : Int) + 1 := (by omega); have hm1 : (1 : Int) ≤ (m : Int) + 1 := (by omega); have hm2 : (m : Int) + 1 ≤ (c : Int) := (by omega)) | (go_at_call 75; refine (HN.out _).mono ?_; rintro e w4 ⟨rfl, hb4⟩; have hX4 : ReadBox w4 w.heap.size ⟨#[]⟩ none 0 0 none 0 0 0 := Blk.keep hX3 hb4; have gg4 := cell_keep hb4 gg; obtain ⟨x0, x1, x2, x3, f0, f1, f2, f3⟩ := hX4.facts; have hz4 : w.heap.size < w4.heap.size := Blk.lt hX4) | (go_at_call 76; refine (HPT.out _ _ _ (reads_tail ((HR.out.keep belB)) _ (fun h => (by simp [h])) hcap)).mono ?_; rintro e w5 hp5; obtain ⟨hb5, PA, Pc, rfl, hPR, hPA⟩ := HPs.out _ _ _ hp5; clear hp5; have hX5 : ReadBox w5 w.heap.size ⟨#[]⟩ none 0 0 none 0 0 0 := Blk.keep hX4 hb5; have gg5 := cell_keep hb5 gg4) | (go_at_call 77; refine (HQ.out _).mono ?_; rintro e w6 hq6; obtain ⟨hb6, QA, Qc, rfl, hQR, hQA⟩ := HQs.out _ _ _ hq6; clear hq6; have hX6 : ReadBox w6 w.heap.size ⟨#[]⟩ none 0 0 none 0 0 0 := Blk.keep hX5 hb6; have gg6 := cell_keep hb6 gg5; clear x0 x1 x2 x3 f0 f1 f2 f3; obtain ⟨x0, x1, x2, x3, f0, f1, f2, f3⟩ := hX6.facts; have hz6 : w.heap.size < w6.heap.size := Blk.lt hX6))
      all_goals (rw [← HV2]; exact bodyPost_ret (v := .agg #[.string ⟨#[]⟩, .slice none 0 0, .slice none 0 0, .int .i64 2]) (by simp [results, Tryz.results43, go_sem, hz6, x0, x1, x2, x3, f0, f1, f2, f3]) rfl (RReadPost.err belB))
    have hd2 : decide ((16 : Int) < (nq : Int)) = false := by simp; omega
    have HV2 := HV1
    rw [if_pos ⟨hnp, hnq⟩] at HV2
    clear HV1
    go_wp2_with (first | (go_at_call 74; refine (HS.out _).mono ?_; rintro e w3 ⟨A, c, rfl, hown, hb3⟩; have hX3 : ReadBox w3 w.heap.size ⟨#[]⟩ none 0 0 none 0 0 0 := Blk.keep hXc hb3; obtain ⟨pb, po, u, rfl, hu, g0⟩ := (Reads.of_own hown).at_ (k := 0) (by omega); (obtain rfl : u = .string C := (by simpa using hu.symm)); clear hu; have gg : w3.cell? ⟨pb, po, none⟩ = some (.string C) := g0; clear g0; have HR := Lib.hid (Reads.of_own hown); have hcap := ownsRow_cap hown; clear hown; have hm0 : (0 : Int) < (m : Int) + 1 := (by omega); have hm1 : (1 : Int) ≤ (m : Int) + 1 := (by omega); have hm2 : (m : Int) + 1 ≤ (c : Int) := (by omega)) | (go_at_call 75; refine (HN.out _).mono ?_; rintro e w4 ⟨rfl, hb4⟩; have hX4 : ReadBox w4 w.heap.size ⟨#[]⟩ none 0 0 none 0 0 0 := Blk.keep hX3 hb4; have gg4 := cell_keep hb4 gg; obtain ⟨x0, x1, x2, x3, f0, f1, f2, f3⟩ := hX4.facts; have hz4 : w.heap.size < w4.heap.size := Blk.lt hX4) | (go_at_call 76; refine (HPT.out _ _ _ (reads_tail ((HR.out.keep belB)) _ (fun h => (by simp [h])) hcap)).mono ?_; rintro e w5 hp5; obtain ⟨hb5, PA, Pc, rfl, hPR, hPA⟩ := HPs.out _ _ _ hp5; clear hp5; have hX5 : ReadBox w5 w.heap.size ⟨#[]⟩ none 0 0 none 0 0 0 := Blk.keep hX4 hb5; have gg5 := cell_keep hb5 gg4) | (go_at_call 77; refine (HQ.out _).mono ?_; rintro e w6 hq6; obtain ⟨hb6, QA, Qc, rfl, hQR, hQA⟩ := HQs.out _ _ _ hq6; clear hq6; have hX6 : ReadBox w6 w.heap.size ⟨#[]⟩ none 0 0 none 0 0 0 := Blk.keep hX5 hb6; have gg6 := cell_keep hb6 gg5; clear x0 x1 x2 x3 f0 f1 f2 f3; obtain ⟨x0, x1, x2, x3, f0, f1, f2, f3⟩ := hX6.facts; have hz6 : w.heap.size < w6.heap.size := Blk.lt hX6))
    all_goals
      have s1 := hbc.size; have s3 := hb3.size; have s4 := hb4.size; have s5 := hb5.size
      have hzc := Blk.lt hXc
      have hA1 : ∀ a, PA = some a → a.block ≠ w.heap.size := fun a ha => by have := hPA a ha; omega
      have hB1 : ∀ a, QA = some a → a.block ≠ w.heap.size := fun a ha => by have := hQA a ha; omega
      rw [← HV2]; exact bodyPost_ret (v := .agg #[.string C, .slice PA np Pc, .slice QA nq Qc, .int .i64 0]) (by simp [results, Tryz.results43, go_sem, hz6, x0, x1, x2, x3, f0, f1, f2, f3]) rfl ⟨belB, PA, Pc, QA, Qc, by rw [HPL.out, HQL.out], by rw [HPL.out]; exact ((((hPR.keep hb6).set_ _ _ hA1).set_ _ _ hA1).set_ _ _ hA1).set_ _ _ hA1, by rw [HQL.out]; exact (((hQR.set_ _ _ hB1).set_ _ _ hB1).set_ _ _ hB1).set_ _ _ hB1⟩
theorem trim_hit (l : BL) : Lib.trimSuffix (l ++ [47]) [47] = l := by
  unfold Lib.trimSuffix
  rw [if_pos (by simp [Lib.hasSuffix])]
  simp
set_option maxHeartbeats 1000000 in
theorem stem_sel (s : ByteArray) : ((toB (leftL s).1).size = 0 ∧ stemB s = toB (leftL s).1) ∨ (∃ j, ∃ hj : j < (toB (leftL s).1).size, (toB (leftL s).1).size = j + 1 ∧ ((toB (leftL s).1)[j].toNat == 47) = false ∧ stemB s = toB (leftL s).1) ∨ (∃ j, ∃ hj : j < (toB (leftL s).1).size, (toB (leftL s).1).size = j + 1 ∧ ((toB (leftL s).1)[j].toNat == 47) = true ∧ stemB s = (toB (leftL s).1).extract 0 j) := by
  unfold stemB
  generalize (leftL s).1 = l
  rcases List.eq_nil_or_concat l with rfl | ⟨a, b, rfl⟩
  · exact .inl ⟨rfl, rfl⟩
  · rw [List.concat_eq_append]
    have hz : (toB (a ++ [b])).size = a.length + 1 := by rw [toB_size]; simp
    have hg : ∀ hj : a.length < (toB (a ++ [b])).size, (toB (a ++ [b]))[a.length] = b := fun hj => by
      rw [byte_at _ _ hj]
      simp [toB]
    by_cases hb : b = 47
    · subst hb
      refine .inr (.inr ⟨a.length, by omega, hz, by rw [hg]; rfl, ?_⟩)
      rw [trim_hit]
      exact bytes_ext (by rw [Lib.extract_data]; simp [toB])
    · refine .inr (.inl ⟨a.length, by omega, hz, ?_, ?_⟩)
      · rw [hg, beq_eq_false_iff_ne]
        intro e
        exact hb (UInt8.toNat_inj.1 e)
      · rw [trim_none a b hb]
theorem rParse_long (s : ByteArray) (w : World) (hs : 4096 < s.size) : Calls Tryz.prog 43 #[.string s] w (RReadPost (noAdr, 2) w) := by
  have hd : decide ((4096 : Int) < (s.size : Int)) = true := by simp; omega
  go_enter Tryz.func43, Tryz.ntmps43
  go_wp2
  exact bodyPost_ret (v := .agg #[.string ⟨#[]⟩, .slice none 0 0, .slice none 0 0, .int .i64 2]) (by simp [results, Tryz.results43, go_sem]) rfl (RReadPost.err belB)
theorem rParse_any (s : ByteArray) (w : World) (hs : s.size ≤ 4294967281) : Calls Tryz.prog 43 #[.string s] w (RReadPost (parseB s) w) := by
  by_cases h : 4096 < s.size
  · have := rParse_long s w h
    unfold parseB
    rw [if_pos h]
    exact this
  have h1 := cut_fst_len (lowL s.data.toList) [63]
  have h2 := cut_snd_len (lowL s.data.toList) [63]
  have h3 := trim_len (leftL s).1 [47]
  have h0 := lowL_len s.data.toList
  rw [← Lib.size_eq] at h0
  obtain ⟨r, hr1, hr2⟩ := stem_split s
  have hst : (stemB s).size ≤ s.size := by show (toB (Lib.trimSuffix (leftL s).1 [47])).size ≤ _; rw [toB_size]; unfold leftL at *; omega
  have hn := splitB_num 47 (stemB s)
  have hz := splitB_size 47 (stemB s)
  rw [hr1] at hn hz
  have hC := hz (toB (custL s).1) (by simp)
  have := rParse_core s (toB (lowL s.data.toList)) (toB (leftL s).1) (toB (leftL s).2.1) (stemB s) (toB (custL s).1) r (leftL s).2.2 (isNameB (toB (custL s).1)) (pathB (custL s)) (pairsB (toB (leftL s).2.1)) w (by omega) (by rw [toB_size]; unfold leftL; omega) (stem_sel s) (by simp at hn; omega)
    (Lib.hid fun W => rSmall_any s W hs) (Lib.hid fun W => by have := rCut_any (toB (lowL s.data.toList)) 63 W (by rw [toB_size]; omega); exact this)
    (Lib.hid fun W => by have := rSplit_any (stemB s) 47 W (by omega); rw [hr1] at this; exact this) (Lib.hid fun W => rName_any _ W (by omega))
    (Lib.hid fun A c W h => by rw [hr2]; exact rPath_any A r.length c r W h (by simp at hn; omega) (fun p hp => by have := hz p (by simp [hp]); omega)) (Lib.hid fun W => rQuery_any _ W (by rw [toB_size]; unfold leftL; omega))
  unfold parseB
  rw [if_neg h]
  exact this
end Go.Proofs.YtokfclikhfpmhaaGreatDoor
