/- Lists of ways to vary, and of headers, in memory. -/
import Derived.Test.YtmlhecjhjjlhfaaGreatDoorSZ16
import Derived.Test.YtmlhecjhjjlhfaaGreatDoorSZ4
import Derived.Test.YtmlhecjhjjlhfaaGreatDoorProg
import Derived.WalkKit
import Derived.WalkSpells
import Derived.WalkLawsBesides
import Derived.Below
import Derived.Deep.QuietTactic
import Derived.BigQuiet
import Derived.Lib.QuietBelow
import Derived.Lib.Strings
import Derived.Lib.Hide
import Derived.Deep.RegionWith
import Derived.Deep.RegionHeld3
import Derived.Lib.IndexBytes
import Derived.Test.YtmlhecjhjjlhfaaGreatDoorSZ6
import Derived.Test.YtmlhecjhjjlhfaaGreatDoorSZ12
import Derived.Lib.SmallJoins
namespace Go.Proofs.YtmlhecjhjjlhfaaGreatDoor
open Go.RowKit Go.Sort
set_option linter.unusedVariables false
set_option linter.unusedSimpArgs false
set_option maxRecDepth 100000
def VaryM.val (x : VaryM) : Value := .agg x.cells.toArray
structure VarysRead (w : World) (A : Option Addr) (n : Nat) (L : List VaryM) : Prop where
  len : L.length = n
  rows : Reads w 3 A n (L.flatMap VaryM.cells)
  each : ∀ x ∈ L, VaryReads w x
theorem VarysRead.keep {w w' : World} {A : Option Addr} {n : Nat} {L : List VaryM} (h : VarysRead w A n L) (hb : Below w.heap.size w w') : VarysRead w' A n L := ⟨h.len, h.rows.keep hb, fun x hx => (h.each x hx).keep hb⟩
theorem VarysRead.at_ {w : World} {A : Option Addr} {n k : Nat} {L : List VaryM} {x : VaryM} (h : VarysRead w A n L) (hk : L[k]? = some x) :
    VaryReads w x ∧ ∃ b o, A = some ⟨b, o, none⟩ ∧ ∀ j u, x.cells[j]? = some u → w.cell? ⟨b, o + k * 3 + j, none⟩ = some u :=
  ⟨h.each x (List.mem_of_getElem? hk), Reads.row h.rows (fun a _ => a.cells_len) h.len hk⟩
theorem RuleReads.varys {w : World} {x : RuleM} (h : RuleReads w x) : VarysRead w x.V x.r.vary.length x.L :=
  ⟨by have h1 := congrArg List.length h.same; rw [List.length_map] at h1; exact h1, h.vary, h.each⟩
structure Hdr where
  name : ByteArray
  value : ByteArray
def Hdr.cells (h : Hdr) : List Value := [.string h.name, .string h.value]
def Hdr.val (h : Hdr) : Value := .agg h.cells.toArray
theorem Hdr.cells_len (x : Hdr) : x.cells.length = 2 := rfl
structure HdrsRead (w : World) (A : Option Addr) (n : Nat) (L : List Hdr) : Prop where
  len : L.length = n
  rows : Reads w 2 A n (L.flatMap Hdr.cells)
theorem HdrsRead.keep {w w' : World} {A : Option Addr} {n : Nat} {L : List Hdr} (h : HdrsRead w A n L) (hb : Below w.heap.size w w') : HdrsRead w' A n L := ⟨h.len, h.rows.keep hb⟩
theorem HdrsRead.at_ {w : World} {A : Option Addr} {n k : Nat} {L : List Hdr} {x : Hdr} (h : HdrsRead w A n L) (hk : L[k]? = some x) :
    True ∧ ∃ b o, A = some ⟨b, o, none⟩ ∧ ∀ j u, x.cells[j]? = some u → w.cell? ⟨b, o + k * 2 + j, none⟩ = some u :=
  ⟨trivial, Reads.row h.rows (fun a _ => a.cells_len) h.len hk⟩
theorem load_row_of {T : TypeId} {d : Array Field} (N : Nat) (l : List Value) (hl : l.length = N) (hu : Tryz.prog.underlying T = some (.struct d)) (hi : (Tryz.prog.info? T).map (·.size) = some N) (hg : ∀ w, (isAgg T).run Tryz.prog w = .ok true w) (w : World) (b o : Nat) (hc : ∀ j u, l[j]? = some u → w.cell? ⟨b, o + j, none⟩ = some u) : (loadVar T ⟨b, o, none⟩).run Tryz.prog w = .ok (.agg l.toArray) w := by
  have hld : (loadCells ⟨b, o, none⟩ N).run Tryz.prog w = .ok l.toArray w := by
    rw [← hl]
    exact run_loadCells_list (P := Tryz.prog) w ⟨b, o, none⟩ l (fun j v hv => by
      have hadd : (⟨b, o, none⟩ : Addr).add j = ⟨b, o + j, none⟩ := by unfold Addr.add; split <;> simp_all
      rw [hadd]; exact hc j v hv)
  cases hq : Tryz.prog.info? T with
  | none => rw [hq] at hi; cases hi
  | some i =>
    have hs : i.size = N := by rw [hq] at hi; simpa using hi
    simp [loadVar, Sem.run_bind, hg w, sizeOf, typeInfo, hq, hs, hld]
theorem agg_vary (w : World) : (isAgg 83).run Tryz.prog w = .ok true w := by
  unfold isAgg
  rw [Sem.run_bind, run_underlying Tryz.underlying83 w]
  rfl
theorem agg_hdr (w : World) : (isAgg 134).run Tryz.prog w = .ok true w := by
  unfold isAgg
  rw [Sem.run_bind, run_underlying Tryz.underlying134 w]
  rfl
theorem varyA_load (w : World) (b o : Nat) (x : VaryM) (hc : ∀ j u, x.cells[j]? = some u → w.cell? ⟨b, o + j, none⟩ = some u) : (loadVar 83 ⟨b, o, none⟩).run Tryz.prog w = .ok x.val w :=
  load_row_of 3 x.cells rfl Tryz.underlying83 (by kernel_rfl) agg_vary w b o hc
theorem hdr_load (w : World) (b o : Nat) (x : Hdr) (hc : ∀ j u, x.cells[j]? = some u → w.cell? ⟨b, o + j, none⟩ = some u) : (loadVar 134 ⟨b, o, none⟩).run Tryz.prog w = .ok x.val w :=
  load_row_of 2 x.cells rfl Tryz.underlying134 (by kernel_rfl) agg_hdr w b o hc
end Go.Proofs.YtmlhecjhjjlhfaaGreatDoor
namespace Go.Proofs.YtmlhecjhjjlhfaaGreatDoor
open Go.RowKit Go.Sort
set_option linter.unusedVariables false
set_option linter.unusedSimpArgs false
set_option maxRecDepth 100000
structure PatGood (p : Pat) : Prop where
  kind : p.cust.kind ≤ 2
  text : p.cust.text.size ≤ 100000
  parts : PartsOk p.parts
  num : p.parts.length ≤ 32
theorem cmpL_good : ∀ (l : List ByteArray) (acc : List Part) (r : List Part × Bool), (∀ x ∈ l, x.size ≤ 100000) → PartsOk acc → cmpL l acc = some r → PartsOk r.1 ∧ r.1.length ≤ acc.length + l.length
  | [], acc, r, _, h, e => by simp [cmpL] at e; subst e; exact ⟨h, by simp⟩
  | w :: l, acc, r, hl, h, e => by
    rw [cmpL] at e
    split at e
    · injection e with e; subst e; exact ⟨h, by simp⟩
    · split at e
      · have hw := hl w (by simp)
        have := cmpL_good l (acc ++ [partOfP w]) r (fun x hx => hl x (by simp [hx])) (by
          intro x hx
          rcases List.mem_append.1 hx with hx | hx
          · exact h x hx
          · rw [List.mem_singleton.1 hx]
            exact ⟨partOfP_kind w, Nat.le_trans (partOfP_size w) hw⟩) e
        refine ⟨this.1, ?_⟩
        have h2 := this.2
        simp at h2 ⊢; omega
      · cases e
theorem compile_good (s : ByteArray) (hs : s.size ≤ 100000) (p : Pat) (h : compileB s = some p) : PatGood p := by
  unfold compileB at h
  have hsz := splitB_size 47 s
  generalize splitB 47 s = l at *
  cases l with
  | nil => cases h
  | cons l0 r =>
    simp only [compL] at h
    split at h
    · rename_i hc
      rw [Bool.and_eq_true, decide_eq_true_eq] at hc
      cases hq : cmpL r [] with
      | none => rw [hq] at h; cases h
      | some x =>
        rw [hq, Option.map_some] at h
        injection h with h
        subst h
        have h0 := hsz l0 (by simp)
        have := cmpL_good r [] x (fun y hy => Nat.le_trans (hsz y (by simp [hy])) hs) (fun y hy => by cases hy) hq
        exact ⟨partOfP_kind l0, by have := partOfP_size l0; show (partOfP l0).text.size ≤ _; omega, this.1, by have h1 := hc.1; have h2 := this.2; show x.1.length ≤ 32; simp at h2; omega⟩
    · cases h
def matchesL : List Part → List ByteArray → Bool
  | [], _ => true
  | p :: ps, w :: ws => hasP p.kind p.text w && matchesL ps ws
  | _ :: _, [] => false
def matchP (x : Pat) (a : Adr) : Bool :=
  hasP x.cust.kind x.cust.text a.cust && !decide (a.path.length < x.parts.length) && !(decide (x.parts.length < a.path.length) && !x.tail) && matchesL x.parts a.path
def matchB (p q : ByteArray) : Bool := match compileB p with
  | none => false
  | some x => readB q && matchP x (parseB q).1
set_option maxHeartbeats 4000000 in
theorem match_any (p q : ByteArray) (w : World) (hp : p.size ≤ 100000) (hq : q.size ≤ 100000) (hE : Env w) : Calls Tryz.prog 9 #[.string p, .string q] w (Ret w (.bool (matchB p q))) := by
  have c1 := fun W h => compile_any p W hp h
  have c2 := fun W h => read_any q W (by omega) h
  have hg := compile_good p hp
  unfold matchB
  have hcs : (parseB q).1.cust.size ≤ 100000 ∧ (parseB q).1.path.length ≤ 32 ∧ ∀ x ∈ (parseB q).1.path, x.size ≤ 64 := by
    rcases parse_errno q with h | h | h
    · have := parse_good q h
      exact ⟨by have := size_of_name this.name; omega, this.parts, fun x hx => size_of_word (this.words x hx)⟩
    all_goals rw [parse_err q (by omega)]; exact ⟨by decide, by decide, by simp [noAdr]⟩
  generalize compileB p = r at *
  generalize readB q = k2 at *
  generalize (parseB q).1 = a at *
  obtain ⟨ac, ap, aq⟩ := a
  dsimp only at hcs
  obtain ⟨hac, hap, hapz⟩ := hcs
  have HD := Lib.hid c2
  have HC := Lib.hid c1
  clear c1 c2
  cases r with
  | none =>
    clear hg
    dsimp only
    go_enter Tryz.func9, Tryz.ntmps9
    go_wp2_with (first | (go_at_call 28; refine (HC.out _ hE).mono ?_; rintro e w1 ⟨hb1, k, t, A, n, c, b, rfl⟩) | (go_at_call 29; refine (HD.out _ (Env.keep (Env.keep hE hb1) (balloc (Below.refl _ _) _))).mono ?_; rintro e w2 ⟨hb2, B, cb, D, cd, rfl, hRq, _⟩; obtain ⟨hc2, hf2⟩ := bcell hb2; have hz2 : w1.heap.size < w2.heap.size := (by have := hb2.size; simp at this; omega)))
    go_ret
    exact ⟨rfl, belB⟩
  | some x =>
    obtain ⟨h1, h2, h3, h4⟩ := hg x rfl
    clear hg
    obtain ⟨⟨kd, tx⟩, ps, tl⟩ := x
    dsimp only at h1 h2 h3 h4 ⊢
    unfold matchP
    dsimp only
    obtain ⟨n, hn⟩ : ∃ n, n = ps.length := ⟨_, rfl⟩
    obtain ⟨na, hna⟩ : ∃ na, na = ap.length := ⟨_, rfl⟩
    rw [← hn, ← hna]
    have HC' : Hid (∀ W, Env W → Calls Tryz.prog 28 #[.string p] W fun e w' => Below W.heap.size W w' ∧ ∃ A c, e = .returned (.tuple #[.agg #[.int .i64 kd, .string tx, .slice A n c, .bool tl], .bool true]) ∧ Reads w' 2 A n (partCells ps)) := Lib.hid (fun W h => by rw [hn]; exact (HC.out W h).mono (by rintro e w' ⟨hb, A, c, rfl, hR, _⟩; exact ⟨hb, A, c, rfl, hR⟩))
    have HD' : Hid (∀ W, Env W → Calls Tryz.prog 29 #[.string q] W fun e w' => Below W.heap.size W w' ∧ ∃ B cb D cd, e = .returned (.tuple #[.agg #[.string ac, .slice B na cb, .slice D aq.length cd], .bool k2]) ∧ Reads w' 1 B na (ap.map .string) ∧ True) := Lib.hid (fun W h => (HD.out W h).mono (by
      rintro e w' ⟨hb, A, ca, B, cb, rfl, h5, h6⟩; rw [hna]; exact ⟨hb, A, ca, B, cb, rfl, h5, trivial⟩))
    have HN := Lib.hid hn
    have HNA := Lib.hid hna
    rw [← hn] at h4
    rw [← hna] at hap
    clear HC HD hn hna
    have HC := HC'; have HD := HD'
    clear HC' HD'
    have cH := fun W => has_any kd tx ac W (by omega) (by omega) h1
    generalize hasP kd tx ac = k3 at *
    have HH := Lib.hid cH
    clear cH
    cases k2
    · simp only [Bool.false_and]
      go_enter Tryz.func9, Tryz.ntmps9
      go_wp2_with (first | (go_at_call 28; refine (HC.out _ hE).mono ?_; rintro e w1 ⟨hb1, A, c, rfl, hRp⟩) | (go_at_call 29; refine (HD.out _ (Env.keep (Env.keep hE hb1) (balloc (Below.refl _ _) _))).mono ?_; rintro e w2 ⟨hb2, B, cb, D, cd, rfl, hRq, _⟩; obtain ⟨hc2, hf2⟩ := bcell hb2; have hz2 : w1.heap.size < w2.heap.size := (by have := hb2.size; simp at this; omega)))
      go_ret
      exact ⟨rfl, belB⟩
    cases k3
    · simp only [Bool.false_and, Bool.and_false]
      go_enter Tryz.func9, Tryz.ntmps9
      go_wp2_with (first | (go_at_call 28; refine (HC.out _ hE).mono ?_; rintro e w1 ⟨hb1, A, c, rfl, hRp⟩) | (go_at_call 29; refine (HD.out _ (Env.keep (Env.keep hE hb1) (balloc (Below.refl _ _) _))).mono ?_; rintro e w2 ⟨hb2, B, cb, D, cd, rfl, hRq, _⟩; obtain ⟨hc2, hf2⟩ := bcell hb2; have hz2 : w1.heap.size < w2.heap.size := (by have := hb2.size; simp at this; omega)) | (go_at_call 30; refine (HH.out _).mono ?_; rintro e w3 ⟨rfl, hb3⟩; obtain ⟨hc3, hf3⟩ := bcell hb3; have hz3 : w2.heap.size < w3.heap.size := (by have := hb3.size; simp at this; omega)))
      go_ret
      exact ⟨rfl, belB⟩
    by_cases hlt : na < n
    · have hd1 : decide ((na : Int) < (n : Int)) = true := by simp; omega
      rw [show decide (na < n) = true by simpa using hlt]
      simp only [Bool.not_true, Bool.and_false, Bool.false_and]
      go_enter Tryz.func9, Tryz.ntmps9
      go_wp2_with (first | (go_at_call 28; refine (HC.out _ hE).mono ?_; rintro e w1 ⟨hb1, A, c, rfl, hRp⟩) | (go_at_call 29; refine (HD.out _ (Env.keep (Env.keep hE hb1) (balloc (Below.refl _ _) _))).mono ?_; rintro e w2 ⟨hb2, B, cb, D, cd, rfl, hRq, _⟩; obtain ⟨hc2, hf2⟩ := bcell hb2; have hz2 : w1.heap.size < w2.heap.size := (by have := hb2.size; simp at this; omega)) | (go_at_call 30; refine (HH.out _).mono ?_; rintro e w3 ⟨rfl, hb3⟩; obtain ⟨hc3, hf3⟩ := bcell hb3; have hz3 : w2.heap.size < w3.heap.size := (by have := hb3.size; simp at this; omega)))
      go_ret
      exact ⟨rfl, belB⟩
    have hd1 : decide ((na : Int) < (n : Int)) = false := by simp; omega
    rw [show decide (na < n) = false by simpa using hlt]
    simp only [Bool.not_false, Bool.and_true, Bool.true_and]
    have hrest : (n < na ∧ tl = false) ∨ (¬ n < na) ∨ (n < na ∧ tl = true) := by cases tl <;> simp <;> omega
    rcases hrest with ⟨hgt, rfl⟩ | hgt | ⟨hgt, rfl⟩
    · have hd2 : decide ((n : Int) < (na : Int)) = true := by simp; omega
      rw [show decide (n < na) = true by simpa using hgt]
      simp only [Bool.not_false, Bool.and_self, Bool.not_true, Bool.false_and]
      go_enter Tryz.func9, Tryz.ntmps9
      go_wp2_with (first | (go_at_call 28; refine (HC.out _ hE).mono ?_; rintro e w1 ⟨hb1, A, c, rfl, hRp⟩) | (go_at_call 29; refine (HD.out _ (Env.keep (Env.keep hE hb1) (balloc (Below.refl _ _) _))).mono ?_; rintro e w2 ⟨hb2, B, cb, D, cd, rfl, hRq, _⟩; obtain ⟨hc2, hf2⟩ := bcell hb2; have hz2 : w1.heap.size < w2.heap.size := (by have := hb2.size; simp at this; omega)) | (go_at_call 30; refine (HH.out _).mono ?_; rintro e w3 ⟨rfl, hb3⟩; obtain ⟨hc3, hf3⟩ := bcell hb3; have hz3 : w2.heap.size < w3.heap.size := (by have := hb3.size; simp at this; omega)))
      go_ret
      exact ⟨rfl, belB⟩
    · have hd2 : decide ((n : Int) < (na : Int)) = false := by simp; omega
      rw [show decide (n < na) = false by simpa using hgt]
      simp only [Bool.false_and, Bool.not_false, Bool.true_and]
      generalize hres : matchesL ps ap = res
      have HRES := Lib.hid hres
      clear hres
      go_enter Tryz.func9, Tryz.ntmps9
      go_wp2_with (first | (go_at_call 28; refine (HC.out _ hE).mono ?_; rintro e w1 ⟨hb1, A, c, rfl, hRp⟩) | (go_at_call 29; refine (HD.out _ (Env.keep (Env.keep hE hb1) (balloc (Below.refl _ _) _))).mono ?_; rintro e w2 ⟨hb2, B, cb, D, cd, rfl, hRq, _⟩; obtain ⟨hc2, hf2⟩ := bcell hb2; have hz2 : w1.heap.size < w2.heap.size := (by have := hb2.size; simp at this; omega)) | (go_at_call 30; refine (HH.out _).mono ?_; rintro e w3 ⟨rfl, hb3⟩; obtain ⟨hc3, hf3⟩ := bcell hb3; have hz3 : w2.heap.size < w3.heap.size := (by have := hb3.size; simp at this; omega)))
      have y2 : w3.cell? ⟨w2.heap.size, 1, none⟩ = some (.slice B na cb) := (hc3 _ _ (by simp)).trans (by simp [go_sem])
      have hRp3 : Reads w3 2 A n (partCells ps) := hRp.keep belB
      have hRq3 : Reads w3 1 B na (ap.map .string) := hRq.keep belB
      have hbw3 : Below w.heap.size w w3 := belB
      have hnna : n ≤ na := by omega
      clear hc2 hf2 hc3 hf3 hRp hRq
      go_loopw [61] (fun vi wr => ∃ k : Nat, (vi = .int .i64 k ∧ k ≤ n) ∧ Hid (matchesL (ps.drop k) (ap.drop k) = res) ∧ Below w3.heap.size w3 wr) (fun vi _ => n - (intOf vi).toNat)
      case atStart => exact ⟨0, ⟨rfl, Nat.zero_le _⟩, HRES, Below.refl _ _⟩
      case round =>
        obtain ⟨k, ⟨rfl, hk⟩, HK, hbr⟩ := hrel
        by_cases hlt : k < n
        · obtain ⟨p', hp'⟩ : ∃ p, ps[k]? = some p := ⟨_, List.getElem?_eq_getElem (by have := HN.out; omega)⟩
          obtain ⟨x', hx'⟩ : ∃ p, ap[k]? = some p := ⟨_, List.getElem?_eq_getElem (by have := HNA.out; omega)⟩
          obtain ⟨hpk, hpt⟩ := h3 p' (List.mem_of_getElem? hp')
          have hxz := hapz x' (List.mem_of_getElem? hx')
          obtain ⟨pb, po, rfl, hcell⟩ := (hRp3.keep hbr).2 (by omega)
          obtain ⟨qb, qo, rfl, hcellq⟩ := (hRq3.keep hbr).2 (by omega)
          obtain ⟨e1, e2⟩ := partCells_at ps k p' hp'
          have hc1 : wr.cell? ⟨pb, po + k * 2, none⟩ = _ := hcell _ _ e1
          have hc2 : wr.cell? ⟨pb, po + k * 2 + 1, none⟩ = _ := hcell _ _ e2
          have hc3 : wr.cell? ⟨qb, qo + k, none⟩ = some (.string x') := hcellq _ _ (by simp [hx'])
          have hdp : ps.drop k = p' :: ps.drop (k + 1) := by
            obtain ⟨hl2, rfl⟩ := List.getElem?_eq_some_iff.1 hp'
            exact List.drop_eq_getElem_cons hl2
          have hdx : ap.drop k = x' :: ap.drop (k + 1) := by
            obtain ⟨hl2, rfl⟩ := List.getElem?_eq_some_iff.1 hx'
            exact List.drop_eq_getElem_cons hl2
          have hm := HK.out
          rw [hdp, hdx, matchesL] at hm
          have cW := fun W => has_any p'.kind p'.text x' W (by omega) (by omega) hpk
          obtain ⟨pk, pt⟩ := p'
          dsimp only at hc1 hc2 cW hm
          have y2r := cell_keep hbr y2
          have g1 : (wr.alloc (.cells #[.int .i64 pk, .string pt] 70)).cell? ⟨wr.heap.size, 0, none⟩ = some (.int .i64 pk) := by simp [go_sem]
          have g2 : (wr.alloc (.cells #[.int .i64 pk, .string pt] 70)).cell? ⟨wr.heap.size, 1, none⟩ = some (.string pt) := by simp [go_sem]
          have g3 : (wr.alloc (.cells #[.int .i64 pk, .string pt] 70)).cell? ⟨w2.heap.size, 1, none⟩ = some (.slice (some ⟨qb, qo, none⟩) na cb) := cell_keep (balloc (Below.refl _ _) _) y2r
          have g4 : (wr.alloc (.cells #[.int .i64 pk, .string pt] 70)).cell? ⟨qb, qo + k, none⟩ = some (.string x') := cell_keep (balloc (Below.refl _ _) _) hc3
          have hk0 : (0 : Int) ≤ (k : Int) := by omega
          have hkm : (k : Int) < (na : Int) := by omega
          clear hp' hx' hcell hcellq e1 e2 hdp hdx HK
          cases hh : hasP pk pt x'
          · rw [hh] at cW hm
            have HW := Lib.hid cW
            have HM2 := Lib.hid hm
            clear cW hm hh
            go_wp2_with fail
            have k1 := cell_regrown g1; have k2 := cell_regrown g2; have k3 := cell_regrown g3; have k4 := cell_regrown g4
            refine wp_region_quiet_below (by kernel_rfl) (by kernel_rfl) ?_; (repeat (any_goals (first | go_big_quiet_step ((first | exact qcalls HW.out _ _)) | quiet_step ((first | exact qcalls HW.out _ _))))); refine wpQuiet_nil ?_; intro _ hwq; obtain ⟨⟨dq, osq⟩, hwq⟩ := hwq; subst hwq; have hb4 := below_regrown (wr.alloc (.cells #[.int .i64 pk, .string pt] 70)) dq osq; generalize grow (redrawn (wr.alloc (.cells #[.int .i64 pk, .string pt] 70)) dq) osq = w4 at *
            go_wp2
            go_ret
            exact ⟨ret_bool (by have := HM2.out; simpa using this), belB⟩
          · rw [hh] at cW hm
            have HW := Lib.hid cW
            have HM2 : Hid (matchesL (ps.drop (k + 1)) (ap.drop (k + 1)) = res) := Lib.hid (by simpa using hm)
            clear cW hm hh
            go_wp2_with fail
            have k1 := cell_regrown g1; have k2 := cell_regrown g2; have k3 := cell_regrown g3; have k4 := cell_regrown g4
            refine wp_region_quiet_below (by kernel_rfl) (by kernel_rfl) ?_; (repeat (any_goals (first | go_big_quiet_step ((first | exact qcalls HW.out _ _)) | quiet_step ((first | exact qcalls HW.out _ _))))); refine wpQuiet_nil ?_; intro _ hwq; obtain ⟨⟨dq, osq⟩, hwq⟩ := hwq; subst hwq; have hb4 := below_regrown (wr.alloc (.cells #[.int .i64 pk, .string pt] 70)) dq osq; generalize grow (redrawn (wr.alloc (.cells #[.int .i64 pk, .string pt] 70)) dq) osq = w4 at *
            go_wp2
            exact ⟨⟨k + 1, ⟨by go_num, by omega⟩, HM2, bstep (balloc hbr _) hb4⟩, by simp [intOf]; omega⟩
        · obtain rfl : k = n := by omega
          have hm : res = true := by
            have := HK.out
            rw [HN.out, List.drop_eq_nil_of_le (Nat.le_refl _), matchesL] at this
            exact this.symm
          subst hm
          go_wp2
          go_ret
          exact ⟨rfl, belB⟩
    · have hd2 : decide ((n : Int) < (na : Int)) = true := by simp; omega
      rw [show decide (n < na) = true by simpa using hgt]
      simp only [Bool.not_true, Bool.and_false, Bool.not_false, Bool.true_and]
      generalize hres : matchesL ps ap = res
      have HRES := Lib.hid hres
      clear hres
      go_enter Tryz.func9, Tryz.ntmps9
      go_wp2_with (first | (go_at_call 28; refine (HC.out _ hE).mono ?_; rintro e w1 ⟨hb1, A, c, rfl, hRp⟩) | (go_at_call 29; refine (HD.out _ (Env.keep (Env.keep hE hb1) (balloc (Below.refl _ _) _))).mono ?_; rintro e w2 ⟨hb2, B, cb, D, cd, rfl, hRq, _⟩; obtain ⟨hc2, hf2⟩ := bcell hb2; have hz2 : w1.heap.size < w2.heap.size := (by have := hb2.size; simp at this; omega)) | (go_at_call 30; refine (HH.out _).mono ?_; rintro e w3 ⟨rfl, hb3⟩; obtain ⟨hc3, hf3⟩ := bcell hb3; have hz3 : w2.heap.size < w3.heap.size := (by have := hb3.size; simp at this; omega)))
      have y2 : w3.cell? ⟨w2.heap.size, 1, none⟩ = some (.slice B na cb) := (hc3 _ _ (by simp)).trans (by simp [go_sem])
      have hRp3 : Reads w3 2 A n (partCells ps) := hRp.keep belB
      have hRq3 : Reads w3 1 B na (ap.map .string) := hRq.keep belB
      have hbw3 : Below w.heap.size w w3 := belB
      have hnna : n ≤ na := by omega
      clear hc2 hf2 hc3 hf3 hRp hRq
      go_loopw [61] (fun vi wr => ∃ k : Nat, (vi = .int .i64 k ∧ k ≤ n) ∧ Hid (matchesL (ps.drop k) (ap.drop k) = res) ∧ Below w3.heap.size w3 wr) (fun vi _ => n - (intOf vi).toNat)
      case atStart => exact ⟨0, ⟨rfl, Nat.zero_le _⟩, HRES, Below.refl _ _⟩
      case round =>
        obtain ⟨k, ⟨rfl, hk⟩, HK, hbr⟩ := hrel
        by_cases hlt : k < n
        · obtain ⟨p', hp'⟩ : ∃ p, ps[k]? = some p := ⟨_, List.getElem?_eq_getElem (by have := HN.out; omega)⟩
          obtain ⟨x', hx'⟩ : ∃ p, ap[k]? = some p := ⟨_, List.getElem?_eq_getElem (by have := HNA.out; omega)⟩
          obtain ⟨hpk, hpt⟩ := h3 p' (List.mem_of_getElem? hp')
          have hxz := hapz x' (List.mem_of_getElem? hx')
          obtain ⟨pb, po, rfl, hcell⟩ := (hRp3.keep hbr).2 (by omega)
          obtain ⟨qb, qo, rfl, hcellq⟩ := (hRq3.keep hbr).2 (by omega)
          obtain ⟨e1, e2⟩ := partCells_at ps k p' hp'
          have hc1 : wr.cell? ⟨pb, po + k * 2, none⟩ = _ := hcell _ _ e1
          have hc2 : wr.cell? ⟨pb, po + k * 2 + 1, none⟩ = _ := hcell _ _ e2
          have hc3 : wr.cell? ⟨qb, qo + k, none⟩ = some (.string x') := hcellq _ _ (by simp [hx'])
          have hdp : ps.drop k = p' :: ps.drop (k + 1) := by
            obtain ⟨hl2, rfl⟩ := List.getElem?_eq_some_iff.1 hp'
            exact List.drop_eq_getElem_cons hl2
          have hdx : ap.drop k = x' :: ap.drop (k + 1) := by
            obtain ⟨hl2, rfl⟩ := List.getElem?_eq_some_iff.1 hx'
            exact List.drop_eq_getElem_cons hl2
          have hm := HK.out
          rw [hdp, hdx, matchesL] at hm
          have cW := fun W => has_any p'.kind p'.text x' W (by omega) (by omega) hpk
          obtain ⟨pk, pt⟩ := p'
          dsimp only at hc1 hc2 cW hm
          have y2r := cell_keep hbr y2
          have g1 : (wr.alloc (.cells #[.int .i64 pk, .string pt] 70)).cell? ⟨wr.heap.size, 0, none⟩ = some (.int .i64 pk) := by simp [go_sem]
          have g2 : (wr.alloc (.cells #[.int .i64 pk, .string pt] 70)).cell? ⟨wr.heap.size, 1, none⟩ = some (.string pt) := by simp [go_sem]
          have g3 : (wr.alloc (.cells #[.int .i64 pk, .string pt] 70)).cell? ⟨w2.heap.size, 1, none⟩ = some (.slice (some ⟨qb, qo, none⟩) na cb) := cell_keep (balloc (Below.refl _ _) _) y2r
          have g4 : (wr.alloc (.cells #[.int .i64 pk, .string pt] 70)).cell? ⟨qb, qo + k, none⟩ = some (.string x') := cell_keep (balloc (Below.refl _ _) _) hc3
          have hk0 : (0 : Int) ≤ (k : Int) := by omega
          have hkm : (k : Int) < (na : Int) := by omega
          clear hp' hx' hcell hcellq e1 e2 hdp hdx HK
          cases hh : hasP pk pt x'
          · rw [hh] at cW hm
            have HW := Lib.hid cW
            have HM2 := Lib.hid hm
            clear cW hm hh
            go_wp2_with fail
            have k1 := cell_regrown g1; have k2 := cell_regrown g2; have k3 := cell_regrown g3; have k4 := cell_regrown g4
            refine wp_region_quiet_below (by kernel_rfl) (by kernel_rfl) ?_; (repeat (any_goals (first | go_big_quiet_step ((first | exact qcalls HW.out _ _)) | quiet_step ((first | exact qcalls HW.out _ _))))); refine wpQuiet_nil ?_; intro _ hwq; obtain ⟨⟨dq, osq⟩, hwq⟩ := hwq; subst hwq; have hb4 := below_regrown (wr.alloc (.cells #[.int .i64 pk, .string pt] 70)) dq osq; generalize grow (redrawn (wr.alloc (.cells #[.int .i64 pk, .string pt] 70)) dq) osq = w4 at *
            go_wp2
            go_ret
            exact ⟨ret_bool (by have := HM2.out; simpa using this), belB⟩
          · rw [hh] at cW hm
            have HW := Lib.hid cW
            have HM2 : Hid (matchesL (ps.drop (k + 1)) (ap.drop (k + 1)) = res) := Lib.hid (by simpa using hm)
            clear cW hm hh
            go_wp2_with fail
            have k1 := cell_regrown g1; have k2 := cell_regrown g2; have k3 := cell_regrown g3; have k4 := cell_regrown g4
            refine wp_region_quiet_below (by kernel_rfl) (by kernel_rfl) ?_; (repeat (any_goals (first | go_big_quiet_step ((first | exact qcalls HW.out _ _)) | quiet_step ((first | exact qcalls HW.out _ _))))); refine wpQuiet_nil ?_; intro _ hwq; obtain ⟨⟨dq, osq⟩, hwq⟩ := hwq; subst hwq; have hb4 := below_regrown (wr.alloc (.cells #[.int .i64 pk, .string pt] 70)) dq osq; generalize grow (redrawn (wr.alloc (.cells #[.int .i64 pk, .string pt] 70)) dq) osq = w4 at *
            go_wp2
            exact ⟨⟨k + 1, ⟨by go_num, by omega⟩, HM2, bstep (balloc hbr _) hb4⟩, by simp [intOf]; omega⟩
        · obtain rfl : k = n := by omega
          have hm : res = true := by
            have := HK.out
            rw [HN.out, List.drop_eq_nil_of_le (Nat.le_refl _), matchesL] at this
            exact this.symm
          subst hm
          go_wp2
          go_ret
          exact ⟨rfl, belB⟩
end Go.Proofs.YtmlhecjhjjlhfaaGreatDoor
namespace Go.Proofs.YtmlhecjhjjlhfaaGreatDoor
open Go.RowKit Go.Sort
set_option linter.unusedVariables false
set_option linter.unusedSimpArgs false
set_option maxRecDepth 100000
theorem box_facts {W : World} {g : Nat} {x : RuleM} (h : RowV W g 38 x.cells) : W.cell? ⟨g, 0, none⟩ = some (.string x.r.name) ∧ W.cell? ⟨g, 1, none⟩ = some (.string x.r.pat) ∧ W.cell? ⟨g, 2, none⟩ = some (.slice x.T x.r.tags.length x.ct) ∧ W.cell? ⟨g, 3, none⟩ = some (.int .i64 x.r.fresh) ∧ W.cell? ⟨g, 4, none⟩ = some (.int .i64 x.r.stale) ∧ W.cell? ⟨g, 5, none⟩ = some (.int .i64 x.r.down) ∧ W.cell? ⟨g, 6, none⟩ = some (.int .i64 x.r.neg) ∧ W.cell? ⟨g, 7, none⟩ = some (.slice x.V x.r.vary.length x.cv) ∧ W.cell? ⟨g, 8, none⟩ = some (.int .i64 x.r.allow.fr) ∧ W.cell? ⟨g, 9, none⟩ = some (.int .i64 x.r.allow.till) ∧ W.cell? ⟨g, 10, none⟩ = some (.string x.r.allow.pat) ∧ W.cell? ⟨g, 11, none⟩ = some (.slice x.m.A x.r.allow.cl.length x.m.ca) ∧ W.cell? ⟨g, 12, none⟩ = some (.slice x.m.B x.r.allow.co.length x.m.cb) ∧ W.cell? ⟨g, 13, none⟩ = some (.slice x.m.S x.r.allow.si.length x.m.cs) ∧ W.cell? ⟨g, 14, none⟩ = some (.int .i64 x.r.allow.us) ∧ W.cell? ⟨g, 15, none⟩ = some (.bool x.r.signed) ∧ W.cell? ⟨g, 16, none⟩ = some (.int .i64 x.r.cost) ∧ W.cell? ⟨g, 17, none⟩ = some (.string x.r.prog) :=
  ⟨RowV.cell h rfl, RowV.cell h rfl, RowV.cell h rfl, RowV.cell h rfl, RowV.cell h rfl, RowV.cell h rfl, RowV.cell h rfl, RowV.cell h rfl, RowV.cell h rfl, RowV.cell h rfl, RowV.cell h rfl, RowV.cell h rfl, RowV.cell h rfl, RowV.cell h rfl, RowV.cell h rfl, RowV.cell h rfl, RowV.cell h rfl, RowV.cell h rfl⟩
end Go.Proofs.YtmlhecjhjjlhfaaGreatDoor
namespace Go.Proofs.YtmlhecjhjjlhfaaGreatDoor
open Go.RowKit Go.Sort
set_option linter.unusedVariables false
set_option linter.unusedSimpArgs false
set_option maxRecDepth 100000
def RPathPost (r : Option (List ByteArray)) (w : World) (e : Ending) (w' : World) : Prop :=
  Below w.heap.size w w' ∧ match r with
    | none => e = .returned (.tuple #[.slice none 0 0, .bool false])
    | some out => ∃ A c, e = .returned (.tuple #[.slice A out.length c, .bool true]) ∧ Reads w' 1 A out.length (out.map .string) ∧ (∀ a, A = some a → w.heap.size ≤ a.block)
end Go.Proofs.YtmlhecjhjjlhfaaGreatDoor
namespace Go.Proofs.YtmlhecjhjjlhfaaGreatDoor
open Go.RowKit Go.Sort
set_option linter.unusedVariables false
set_option linter.unusedSimpArgs false
set_option maxRecDepth 100000
def Tab (w : World) : Prop := Lib.TabIs Tryz.prog w "internal/strconv.uint64pow10" .u64 Lib.pow10Tab
theorem tab_global : Tryz.prog.globalNamed "internal/strconv.uint64pow10" = some 3 := by kernel_rfl
theorem Tab.keep {w w' : World} (h : Tab w) (hb : Below w.heap.size w w') : Tab w' := Go.Joins.tab_stays tab_global h hb (Nat.le_refl _)
def orT (a b : ByteArray) : ByteArray := if a.size = 0 then b else a
def commaT (xs : List ByteArray) : ByteArray := ⟨(Lib.join (xs.map (·.data.toList)) [44]).toArray⟩
def joinT (xs : List ByteArray) : ByteArray := orT (commaT xs) ⟨#[126]⟩
def itoaB (n : Int) : ByteArray := ⟨(Lib.itoa n).toArray⟩
theorem itoa_any (n : Int) (w : World) (h0 : -9223372036854775808 ≤ n) (h1 : n ≤ 9223372036854775807) (ht : Tab w) : Calls Tryz.prog 188 #[.int .i64 n] w (Ret w (.string (itoaB n))) :=
  (Tryz.strconv_Itoa n h0 h1 w ht).mono fun e w' ⟨he, k, os, hw⟩ => ⟨he, by rw [hw]; exact below_grown w k os⟩
end Go.Proofs.YtmlhecjhjjlhfaaGreatDoor
