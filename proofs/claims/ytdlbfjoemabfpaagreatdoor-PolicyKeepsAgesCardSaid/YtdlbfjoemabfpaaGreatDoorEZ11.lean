/- What 'Match' returns. -/
import Derived.Test.YtdlbfjoemabfpaaGreatDoorEZ10
import Derived.Test.YtdlbfjoemabfpaaGreatDoorProg
import Derived.WalkKit
import Derived.WalkSpells
import Derived.WalkLawsBesides
import Derived.Below
import Derived.Deep.QuietTactic
import Derived.BigQuiet
import Derived.Lib.QuietBelow
import Derived.Lib.Strings
import Derived.Lib.Hide
import Derived.Deep.RegionWith
import Derived.Deep.RegionHeld3
import Derived.Lib.IndexBytes
import Derived.Deep.DeepCutAuto
import Derived.Test.YtdlbfjoemabfpaaGreatDoorEZ9
import Derived.Test.YtdlbfjoemabfpaaGreatDoorEZ2
namespace Go.Proofs.YtdlbfjoemabfpaaGreatDoor
open Go.RowKit Go.Sort
set_option linter.unusedVariables false
set_option linter.unusedSimpArgs false
set_option maxRecDepth 100000
structure PatGood (p : Pat) : Prop where
  kind : p.cust.kind ≤ 2
  text : p.cust.text.size ≤ 100000
  parts : PartsOk p.parts
  num : p.parts.length ≤ 32
theorem cmpL_good : ∀ (l : List ByteArray) (acc : List Part) (r : List Part × Bool), (∀ x ∈ l, x.size ≤ 100000) → PartsOk acc → cmpL l acc = some r → PartsOk r.1 ∧ r.1.length ≤ acc.length + l.length
  | [], acc, r, _, h, e => by simp [cmpL] at e; subst e; exact ⟨h, by simp⟩
  | w :: l, acc, r, hl, h, e => by
    rw [cmpL] at e
    split at e
    · injection e with e; subst e; exact ⟨h, by simp⟩
    · split at e
      · have hw := hl w (by simp)
        have := cmpL_good l (acc ++ [partOfP w]) r (fun x hx => hl x (by simp [hx])) (by
          intro x hx
          rcases List.mem_append.1 hx with hx | hx
          · exact h x hx
          · rw [List.mem_singleton.1 hx]
            exact ⟨partOfP_kind w, Nat.le_trans (partOfP_size w) hw⟩) e
        refine ⟨this.1, ?_⟩
        have h2 := this.2
        simp at h2 ⊢; omega
      · cases e
theorem compile_good (s : ByteArray) (hs : s.size ≤ 100000) (p : Pat) (h : compileB s = some p) : PatGood p := by
  unfold compileB at h
  have hsz := splitB_size 47 s
  generalize splitB 47 s = l at *
  cases l with
  | nil => cases h
  | cons l0 r =>
    simp only [compL] at h
    split at h
    · rename_i hc
      rw [Bool.and_eq_true, decide_eq_true_eq] at hc
      cases hq : cmpL r [] with
      | none => rw [hq] at h; cases h
      | some x =>
        rw [hq, Option.map_some] at h
        injection h with h
        subst h
        have h0 := hsz l0 (by simp)
        have := cmpL_good r [] x (fun y hy => Nat.le_trans (hsz y (by simp [hy])) hs) (fun y hy => by cases hy) hq
        exact ⟨partOfP_kind l0, by have := partOfP_size l0; show (partOfP l0).text.size ≤ _; omega, this.1, by have h1 := hc.1; have h2 := this.2; show x.1.length ≤ 32; simp at h2; omega⟩
    · cases h
def matchesL : List Part → List ByteArray → Bool
  | [], _ => true
  | p :: ps, w :: ws => hasP p.kind p.text w && matchesL ps ws
  | _ :: _, [] => false
def matchP (x : Pat) (a : Adr) : Bool :=
  hasP x.cust.kind x.cust.text a.cust && !decide (a.path.length < x.parts.length) && !(decide (x.parts.length < a.path.length) && !x.tail) && matchesL x.parts a.path
def matchB (p q : ByteArray) : Bool := match compileB p with
  | none => false
  | some x => readB q && matchP x (parseB q).1
set_option maxHeartbeats 4000000 in
theorem match_any (p q : ByteArray) (w : World) (hp : p.size ≤ 100000) (hq : q.size ≤ 100000) (hE : Env w) : Calls Tryz.prog 65 #[.string p, .string q] w (Ret w (.bool (matchB p q))) := by
  have c1 := fun W h => compile_any p W hp h
  have c2 := fun W h => read_any q W (by omega) h
  have hg := compile_good p hp
  unfold matchB
  have hcs : (parseB q).1.cust.size ≤ 100000 ∧ (parseB q).1.path.length ≤ 32 ∧ ∀ x ∈ (parseB q).1.path, x.size ≤ 64 := by
    rcases parse_errno q with h | h | h
    · have := parse_good q h
      exact ⟨by have := size_of_name this.name; omega, this.parts, fun x hx => size_of_word (this.words x hx)⟩
    all_goals rw [parse_err q (by omega)]; exact ⟨by decide, by decide, by simp [noAdr]⟩
  generalize compileB p = r at *
  generalize readB q = k2 at *
  generalize (parseB q).1 = a at *
  obtain ⟨ac, ap, aq⟩ := a
  dsimp only at hcs
  obtain ⟨hac, hap, hapz⟩ := hcs
  have HD := Lib.hid c2
  have HC := Lib.hid c1
  clear c1 c2
  cases r with
  | none =>
    clear hg
    dsimp only
    go_enter Tryz.func65, Tryz.ntmps65
    go_wp2_with (first | (go_at_call 84; refine (HC.out _ hE).mono ?_; rintro e w1 ⟨hb1, k, t, A, n, c, b, rfl⟩) | (go_at_call 113; refine (HD.out _ (Env.keep (Env.keep hE hb1) (balloc (Below.refl _ _) _))).mono ?_; rintro e w2 ⟨hb2, B, cb, D, cd, rfl, hRq, _⟩; obtain ⟨hc2, hf2⟩ := bcell hb2; have hz2 : w1.heap.size < w2.heap.size := (by have := hb2.size; simp at this; omega)))
    go_ret
    exact ⟨rfl, belB⟩
  | some x =>
    obtain ⟨h1, h2, h3, h4⟩ := hg x rfl
    clear hg
    obtain ⟨⟨kd, tx⟩, ps, tl⟩ := x
    dsimp only at h1 h2 h3 h4 ⊢
    unfold matchP
    dsimp only
    obtain ⟨n, hn⟩ : ∃ n, n = ps.length := ⟨_, rfl⟩
    obtain ⟨na, hna⟩ : ∃ na, na = ap.length := ⟨_, rfl⟩
    rw [← hn, ← hna]
    have HC' : Hid (∀ W, Env W → Calls Tryz.prog 84 #[.string p] W fun e w' => Below W.heap.size W w' ∧ ∃ A c, e = .returned (.tuple #[.agg #[.int .i64 kd, .string tx, .slice A n c, .bool tl], .bool true]) ∧ Reads w' 2 A n (partCells ps)) := Lib.hid (fun W h => by rw [hn]; exact (HC.out W h).mono (by rintro e w' ⟨hb, A, c, rfl, hR, _⟩; exact ⟨hb, A, c, rfl, hR⟩))
    have HD' : Hid (∀ W, Env W → Calls Tryz.prog 113 #[.string q] W fun e w' => Below W.heap.size W w' ∧ ∃ B cb D cd, e = .returned (.tuple #[.agg #[.string ac, .slice B na cb, .slice D aq.length cd], .bool k2]) ∧ Reads w' 1 B na (ap.map .string) ∧ True) := Lib.hid (fun W h => (HD.out W h).mono (by
      rintro e w' ⟨hb, A, ca, B, cb, rfl, h5, h6⟩; rw [hna]; exact ⟨hb, A, ca, B, cb, rfl, h5, trivial⟩))
    have HN := Lib.hid hn
    have HNA := Lib.hid hna
    rw [← hn] at h4
    rw [← hna] at hap
    clear HC HD hn hna
    have HC := HC'; have HD := HD'
    clear HC' HD'
    have cH := fun W => has_any kd tx ac W (by omega) (by omega) h1
    generalize hasP kd tx ac = k3 at *
    have HH := Lib.hid cH
    clear cH
    cases k2
    · simp only [Bool.false_and]
      go_enter Tryz.func65, Tryz.ntmps65
      go_wp2_with (first | (go_at_call 84; refine (HC.out _ hE).mono ?_; rintro e w1 ⟨hb1, A, c, rfl, hRp⟩) | (go_at_call 113; refine (HD.out _ (Env.keep (Env.keep hE hb1) (balloc (Below.refl _ _) _))).mono ?_; rintro e w2 ⟨hb2, B, cb, D, cd, rfl, hRq, _⟩; obtain ⟨hc2, hf2⟩ := bcell hb2; have hz2 : w1.heap.size < w2.heap.size := (by have := hb2.size; simp at this; omega)))
      go_ret
      exact ⟨rfl, belB⟩
    cases k3
    · simp only [Bool.false_and, Bool.and_false]
      go_enter Tryz.func65, Tryz.ntmps65
      go_wp2_with (first | (go_at_call 84; refine (HC.out _ hE).mono ?_; rintro e w1 ⟨hb1, A, c, rfl, hRp⟩) | (go_at_call 113; refine (HD.out _ (Env.keep (Env.keep hE hb1) (balloc (Below.refl _ _) _))).mono ?_; rintro e w2 ⟨hb2, B, cb, D, cd, rfl, hRq, _⟩; obtain ⟨hc2, hf2⟩ := bcell hb2; have hz2 : w1.heap.size < w2.heap.size := (by have := hb2.size; simp at this; omega)) | (go_at_call 114; refine (HH.out _).mono ?_; rintro e w3 ⟨rfl, hb3⟩; obtain ⟨hc3, hf3⟩ := bcell hb3; have hz3 : w2.heap.size < w3.heap.size := (by have := hb3.size; simp at this; omega)))
      go_ret
      exact ⟨rfl, belB⟩
    by_cases hlt : na < n
    · have hd1 : decide ((na : Int) < (n : Int)) = true := by simp; omega
      rw [show decide (na < n) = true by simpa using hlt]
      simp only [Bool.not_true, Bool.and_false, Bool.false_and]
      go_enter Tryz.func65, Tryz.ntmps65
      go_wp2_with (first | (go_at_call 84; refine (HC.out _ hE).mono ?_; rintro e w1 ⟨hb1, A, c, rfl, hRp⟩) | (go_at_call 113; refine (HD.out _ (Env.keep (Env.keep hE hb1) (balloc (Below.refl _ _) _))).mono ?_; rintro e w2 ⟨hb2, B, cb, D, cd, rfl, hRq, _⟩; obtain ⟨hc2, hf2⟩ := bcell hb2; have hz2 : w1.heap.size < w2.heap.size := (by have := hb2.size; simp at this; omega)) | (go_at_call 114; refine (HH.out _).mono ?_; rintro e w3 ⟨rfl, hb3⟩; obtain ⟨hc3, hf3⟩ := bcell hb3; have hz3 : w2.heap.size < w3.heap.size := (by have := hb3.size; simp at this; omega)))
      go_ret
      exact ⟨rfl, belB⟩
    have hd1 : decide ((na : Int) < (n : Int)) = false := by simp; omega
    rw [show decide (na < n) = false by simpa using hlt]
    simp only [Bool.not_false, Bool.and_true, Bool.true_and]
    have hrest : (n < na ∧ tl = false) ∨ (¬ n < na) ∨ (n < na ∧ tl = true) := by cases tl <;> simp <;> omega
    rcases hrest with ⟨hgt, rfl⟩ | hgt | ⟨hgt, rfl⟩
    · have hd2 : decide ((n : Int) < (na : Int)) = true := by simp; omega
      rw [show decide (n < na) = true by simpa using hgt]
      simp only [Bool.not_false, Bool.and_self, Bool.not_true, Bool.false_and]
      go_enter Tryz.func65, Tryz.ntmps65
      go_wp2_with (first | (go_at_call 84; refine (HC.out _ hE).mono ?_; rintro e w1 ⟨hb1, A, c, rfl, hRp⟩) | (go_at_call 113; refine (HD.out _ (Env.keep (Env.keep hE hb1) (balloc (Below.refl _ _) _))).mono ?_; rintro e w2 ⟨hb2, B, cb, D, cd, rfl, hRq, _⟩; obtain ⟨hc2, hf2⟩ := bcell hb2; have hz2 : w1.heap.size < w2.heap.size := (by have := hb2.size; simp at this; omega)) | (go_at_call 114; refine (HH.out _).mono ?_; rintro e w3 ⟨rfl, hb3⟩; obtain ⟨hc3, hf3⟩ := bcell hb3; have hz3 : w2.heap.size < w3.heap.size := (by have := hb3.size; simp at this; omega)))
      go_ret
      exact ⟨rfl, belB⟩
    · have hd2 : decide ((n : Int) < (na : Int)) = false := by simp; omega
      rw [show decide (n < na) = false by simpa using hgt]
      simp only [Bool.false_and, Bool.not_false, Bool.true_and]
      generalize hres : matchesL ps ap = res
      have HRES := Lib.hid hres
      clear hres
      go_enter Tryz.func65, Tryz.ntmps65
      go_wp2_with (first | (go_at_call 84; refine (HC.out _ hE).mono ?_; rintro e w1 ⟨hb1, A, c, rfl, hRp⟩) | (go_at_call 113; refine (HD.out _ (Env.keep (Env.keep hE hb1) (balloc (Below.refl _ _) _))).mono ?_; rintro e w2 ⟨hb2, B, cb, D, cd, rfl, hRq, _⟩; obtain ⟨hc2, hf2⟩ := bcell hb2; have hz2 : w1.heap.size < w2.heap.size := (by have := hb2.size; simp at this; omega)) | (go_at_call 114; refine (HH.out _).mono ?_; rintro e w3 ⟨rfl, hb3⟩; obtain ⟨hc3, hf3⟩ := bcell hb3; have hz3 : w2.heap.size < w3.heap.size := (by have := hb3.size; simp at this; omega)))
      have y2 : w3.cell? ⟨w2.heap.size, 1, none⟩ = some (.slice B na cb) := (hc3 _ _ (by simp)).trans (by simp [go_sem])
      have hRp3 : Reads w3 2 A n (partCells ps) := hRp.keep belB
      have hRq3 : Reads w3 1 B na (ap.map .string) := hRq.keep belB
      have hbw3 : Below w.heap.size w w3 := belB
      have hnna : n ≤ na := by omega
      clear hc2 hf2 hc3 hf3 hRp hRq
      go_loopw [61] (fun vi wr => ∃ k : Nat, (vi = .int .i64 k ∧ k ≤ n) ∧ Hid (matchesL (ps.drop k) (ap.drop k) = res) ∧ Below w3.heap.size w3 wr) (fun vi _ => n - (intOf vi).toNat)
      case atStart => exact ⟨0, ⟨rfl, Nat.zero_le _⟩, HRES, Below.refl _ _⟩
      case round =>
        obtain ⟨k, ⟨rfl, hk⟩, HK, hbr⟩ := hrel
        by_cases hlt : k < n
        · obtain ⟨p', hp'⟩ : ∃ p, ps[k]? = some p := ⟨_, List.getElem?_eq_getElem (by have := HN.out; omega)⟩
          obtain ⟨x', hx'⟩ : ∃ p, ap[k]? = some p := ⟨_, List.getElem?_eq_getElem (by have := HNA.out; omega)⟩
          obtain ⟨hpk, hpt⟩ := h3 p' (List.mem_of_getElem? hp')
          have hxz := hapz x' (List.mem_of_getElem? hx')
          obtain ⟨pb, po, rfl, hcell⟩ := (hRp3.keep hbr).2 (by omega)
          obtain ⟨qb, qo, rfl, hcellq⟩ := (hRq3.keep hbr).2 (by omega)
          obtain ⟨e1, e2⟩ := partCells_at ps k p' hp'
          have hc1 : wr.cell? ⟨pb, po + k * 2, none⟩ = _ := hcell _ _ e1
          have hc2 : wr.cell? ⟨pb, po + k * 2 + 1, none⟩ = _ := hcell _ _ e2
          have hc3 : wr.cell? ⟨qb, qo + k, none⟩ = some (.string x') := hcellq _ _ (by simp [hx'])
          have hdp : ps.drop k = p' :: ps.drop (k + 1) := by
            obtain ⟨hl2, rfl⟩ := List.getElem?_eq_some_iff.1 hp'
            exact List.drop_eq_getElem_cons hl2
          have hdx : ap.drop k = x' :: ap.drop (k + 1) := by
            obtain ⟨hl2, rfl⟩ := List.getElem?_eq_some_iff.1 hx'
            exact List.drop_eq_getElem_cons hl2
          have hm := HK.out
          rw [hdp, hdx, matchesL] at hm
          have cW := fun W => has_any p'.kind p'.text x' W (by omega) (by omega) hpk
          obtain ⟨pk, pt⟩ := p'
          dsimp only at hc1 hc2 cW hm
          have y2r := cell_keep hbr y2
          have g1 : (wr.alloc (.cells #[.int .i64 pk, .string pt] 102)).cell? ⟨wr.heap.size, 0, none⟩ = some (.int .i64 pk) := by simp [go_sem]
          have g2 : (wr.alloc (.cells #[.int .i64 pk, .string pt] 102)).cell? ⟨wr.heap.size, 1, none⟩ = some (.string pt) := by simp [go_sem]
          have g3 : (wr.alloc (.cells #[.int .i64 pk, .string pt] 102)).cell? ⟨w2.heap.size, 1, none⟩ = some (.slice (some ⟨qb, qo, none⟩) na cb) := cell_keep (balloc (Below.refl _ _) _) y2r
          have g4 : (wr.alloc (.cells #[.int .i64 pk, .string pt] 102)).cell? ⟨qb, qo + k, none⟩ = some (.string x') := cell_keep (balloc (Below.refl _ _) _) hc3
          have hk0 : (0 : Int) ≤ (k : Int) := by omega
          have hkm : (k : Int) < (na : Int) := by omega
          clear hp' hx' hcell hcellq e1 e2 hdp hdx HK
          cases hh : hasP pk pt x'
          · rw [hh] at cW hm
            have HW := Lib.hid cW
            have HM2 := Lib.hid hm
            clear cW hm hh
            go_wp2_with fail
            have k1 := cell_regrown g1; have k2 := cell_regrown g2; have k3 := cell_regrown g3; have k4 := cell_regrown g4
            refine wp_region_quiet_below (by kernel_rfl) (by kernel_rfl) ?_; (repeat (any_goals (first | go_big_quiet_step ((first | exact qcalls HW.out _ _)) | quiet_step ((first | exact qcalls HW.out _ _))))); refine wpQuiet_nil ?_; intro _ hwq; obtain ⟨⟨dq, osq⟩, hwq⟩ := hwq; subst hwq; have hb4 := below_regrown (wr.alloc (.cells #[.int .i64 pk, .string pt] 102)) dq osq; generalize grow (redrawn (wr.alloc (.cells #[.int .i64 pk, .string pt] 102)) dq) osq = w4 at *
            go_wp2
            go_ret
            exact ⟨ret_bool (by have := HM2.out; simpa using this), belB⟩
          · rw [hh] at cW hm
            have HW := Lib.hid cW
            have HM2 : Hid (matchesL (ps.drop (k + 1)) (ap.drop (k + 1)) = res) := Lib.hid (by simpa using hm)
            clear cW hm hh
            go_wp2_with fail
            have k1 := cell_regrown g1; have k2 := cell_regrown g2; have k3 := cell_regrown g3; have k4 := cell_regrown g4
            refine wp_region_quiet_below (by kernel_rfl) (by kernel_rfl) ?_; (repeat (any_goals (first | go_big_quiet_step ((first | exact qcalls HW.out _ _)) | quiet_step ((first | exact qcalls HW.out _ _))))); refine wpQuiet_nil ?_; intro _ hwq; obtain ⟨⟨dq, osq⟩, hwq⟩ := hwq; subst hwq; have hb4 := below_regrown (wr.alloc (.cells #[.int .i64 pk, .string pt] 102)) dq osq; generalize grow (redrawn (wr.alloc (.cells #[.int .i64 pk, .string pt] 102)) dq) osq = w4 at *
            go_wp2
            exact ⟨⟨k + 1, ⟨by go_num, by omega⟩, HM2, bstep (balloc hbr _) hb4⟩, by simp [intOf]; omega⟩
        · obtain rfl : k = n := by omega
          have hm : res = true := by
            have := HK.out
            rw [HN.out, List.drop_eq_nil_of_le (Nat.le_refl _), matchesL] at this
            exact this.symm
          subst hm
          go_wp2
          go_ret
          exact ⟨rfl, belB⟩
    · have hd2 : decide ((n : Int) < (na : Int)) = true := by simp; omega
      rw [show decide (n < na) = true by simpa using hgt]
      simp only [Bool.not_true, Bool.and_false, Bool.not_false, Bool.true_and]
      generalize hres : matchesL ps ap = res
      have HRES := Lib.hid hres
      clear hres
      go_enter Tryz.func65, Tryz.ntmps65
      go_wp2_with (first | (go_at_call 84; refine (HC.out _ hE).mono ?_; rintro e w1 ⟨hb1, A, c, rfl, hRp⟩) | (go_at_call 113; refine (HD.out _ (Env.keep (Env.keep hE hb1) (balloc (Below.refl _ _) _))).mono ?_; rintro e w2 ⟨hb2, B, cb, D, cd, rfl, hRq, _⟩; obtain ⟨hc2, hf2⟩ := bcell hb2; have hz2 : w1.heap.size < w2.heap.size := (by have := hb2.size; simp at this; omega)) | (go_at_call 114; refine (HH.out _).mono ?_; rintro e w3 ⟨rfl, hb3⟩; obtain ⟨hc3, hf3⟩ := bcell hb3; have hz3 : w2.heap.size < w3.heap.size := (by have := hb3.size; simp at this; omega)))
      have y2 : w3.cell? ⟨w2.heap.size, 1, none⟩ = some (.slice B na cb) := (hc3 _ _ (by simp)).trans (by simp [go_sem])
      have hRp3 : Reads w3 2 A n (partCells ps) := hRp.keep belB
      have hRq3 : Reads w3 1 B na (ap.map .string) := hRq.keep belB
      have hbw3 : Below w.heap.size w w3 := belB
      have hnna : n ≤ na := by omega
      clear hc2 hf2 hc3 hf3 hRp hRq
      go_loopw [61] (fun vi wr => ∃ k : Nat, (vi = .int .i64 k ∧ k ≤ n) ∧ Hid (matchesL (ps.drop k) (ap.drop k) = res) ∧ Below w3.heap.size w3 wr) (fun vi _ => n - (intOf vi).toNat)
      case atStart => exact ⟨0, ⟨rfl, Nat.zero_le _⟩, HRES, Below.refl _ _⟩
      case round =>
        obtain ⟨k, ⟨rfl, hk⟩, HK, hbr⟩ := hrel
        by_cases hlt : k < n
        · obtain ⟨p', hp'⟩ : ∃ p, ps[k]? = some p := ⟨_, List.getElem?_eq_getElem (by have := HN.out; omega)⟩
          obtain ⟨x', hx'⟩ : ∃ p, ap[k]? = some p := ⟨_, List.getElem?_eq_getElem (by have := HNA.out; omega)⟩
          obtain ⟨hpk, hpt⟩ := h3 p' (List.mem_of_getElem? hp')
          have hxz := hapz x' (List.mem_of_getElem? hx')
          obtain ⟨pb, po, rfl, hcell⟩ := (hRp3.keep hbr).2 (by omega)
          obtain ⟨qb, qo, rfl, hcellq⟩ := (hRq3.keep hbr).2 (by omega)
          obtain ⟨e1, e2⟩ := partCells_at ps k p' hp'
          have hc1 : wr.cell? ⟨pb, po + k * 2, none⟩ = _ := hcell _ _ e1
          have hc2 : wr.cell? ⟨pb, po + k * 2 + 1, none⟩ = _ := hcell _ _ e2
          have hc3 : wr.cell? ⟨qb, qo + k, none⟩ = some (.string x') := hcellq _ _ (by simp [hx'])
          have hdp : ps.drop k = p' :: ps.drop (k + 1) := by
            obtain ⟨hl2, rfl⟩ := List.getElem?_eq_some_iff.1 hp'
            exact List.drop_eq_getElem_cons hl2
          have hdx : ap.drop k = x' :: ap.drop (k + 1) := by
            obtain ⟨hl2, rfl⟩ := List.getElem?_eq_some_iff.1 hx'
            exact List.drop_eq_getElem_cons hl2
          have hm := HK.out
          rw [hdp, hdx, matchesL] at hm
          have cW := fun W => has_any p'.kind p'.text x' W (by omega) (by omega) hpk
          obtain ⟨pk, pt⟩ := p'
          dsimp only at hc1 hc2 cW hm
          have y2r := cell_keep hbr y2
          have g1 : (wr.alloc (.cells #[.int .i64 pk, .string pt] 102)).cell? ⟨wr.heap.size, 0, none⟩ = some (.int .i64 pk) := by simp [go_sem]
          have g2 : (wr.alloc (.cells #[.int .i64 pk, .string pt] 102)).cell? ⟨wr.heap.size, 1, none⟩ = some (.string pt) := by simp [go_sem]
          have g3 : (wr.alloc (.cells #[.int .i64 pk, .string pt] 102)).cell? ⟨w2.heap.size, 1, none⟩ = some (.slice (some ⟨qb, qo, none⟩) na cb) := cell_keep (balloc (Below.refl _ _) _) y2r
          have g4 : (wr.alloc (.cells #[.int .i64 pk, .string pt] 102)).cell? ⟨qb, qo + k, none⟩ = some (.string x') := cell_keep (balloc (Below.refl _ _) _) hc3
          have hk0 : (0 : Int) ≤ (k : Int) := by omega
          have hkm : (k : Int) < (na : Int) := by omega
          clear hp' hx' hcell hcellq e1 e2 hdp hdx HK
          cases hh : hasP pk pt x'
          · rw [hh] at cW hm
            have HW := Lib.hid cW
            have HM2 := Lib.hid hm
            clear cW hm hh
            go_wp2_with fail
            have k1 := cell_regrown g1; have k2 := cell_regrown g2; have k3 := cell_regrown g3; have k4 := cell_regrown g4
            refine wp_region_quiet_below (by kernel_rfl) (by kernel_rfl) ?_; (repeat (any_goals (first | go_big_quiet_step ((first | exact qcalls HW.out _ _)) | quiet_step ((first | exact qcalls HW.out _ _))))); refine wpQuiet_nil ?_; intro _ hwq; obtain ⟨⟨dq, osq⟩, hwq⟩ := hwq; subst hwq; have hb4 := below_regrown (wr.alloc (.cells #[.int .i64 pk, .string pt] 102)) dq osq; generalize grow (redrawn (wr.alloc (.cells #[.int .i64 pk, .string pt] 102)) dq) osq = w4 at *
            go_wp2
            go_ret
            exact ⟨ret_bool (by have := HM2.out; simpa using this), belB⟩
          · rw [hh] at cW hm
            have HW := Lib.hid cW
            have HM2 : Hid (matchesL (ps.drop (k + 1)) (ap.drop (k + 1)) = res) := Lib.hid (by simpa using hm)
            clear cW hm hh
            go_wp2_with fail
            have k1 := cell_regrown g1; have k2 := cell_regrown g2; have k3 := cell_regrown g3; have k4 := cell_regrown g4
            refine wp_region_quiet_below (by kernel_rfl) (by kernel_rfl) ?_; (repeat (any_goals (first | go_big_quiet_step ((first | exact qcalls HW.out _ _)) | quiet_step ((first | exact qcalls HW.out _ _))))); refine wpQuiet_nil ?_; intro _ hwq; obtain ⟨⟨dq, osq⟩, hwq⟩ := hwq; subst hwq; have hb4 := below_regrown (wr.alloc (.cells #[.int .i64 pk, .string pt] 102)) dq osq; generalize grow (redrawn (wr.alloc (.cells #[.int .i64 pk, .string pt] 102)) dq) osq = w4 at *
            go_wp2
            exact ⟨⟨k + 1, ⟨by go_num, by omega⟩, HM2, bstep (balloc hbr _) hb4⟩, by simp [intOf]; omega⟩
        · obtain rfl : k = n := by omega
          have hm : res = true := by
            have := HK.out
            rw [HN.out, List.drop_eq_nil_of_le (Nat.le_refl _), matchesL] at this
            exact this.symm
          subst hm
          go_wp2
          go_ret
          exact ⟨rfl, belB⟩
end Go.Proofs.YtdlbfjoemabfpaaGreatDoor
namespace Go.Proofs.YtdlbfjoemabfpaaGreatDoor
open Go.RowKit Go.Sort
set_option linter.unusedVariables false
set_option linter.unusedSimpArgs false
set_option maxRecDepth 100000
def mtL : List Part → List Part → List Part → Option (List Part)
  | acc, [], _ => some acc
  | acc, a :: r, [] => mtL (acc ++ [a]) r []
  | acc, a :: r, b :: q => if meetsP a b then mtL (acc ++ [meetP a b]) r q else none
def commonO (x y : Pat) : Option Pat :=
  if !meetsP x.cust y.cust || (decide (y.parts.length < x.parts.length) && !y.tail) then none else (mtL [] x.parts y.parts).map fun l => ⟨meetP x.cust y.cust, l, x.tail && y.tail⟩
def commonP (x y : Pat) : Option Pat := if x.parts.length < y.parts.length then commonO y x else commonO x y
theorem PBox.far {w : World} {g k : Nat} {t : ByteArray} {v : Value} {b : Bool} (h : PBox w g k t v b) (p : Addr) (u : Value) (hp : g ≠ p.block) : PBox (w.setCell p u) g k t v b := (Below.heap_setCell w p u g hp).trans h
end Go.Proofs.YtdlbfjoemabfpaaGreatDoor
namespace Go.Proofs.YtdlbfjoemabfpaaGreatDoor
open Go.RowKit Go.Sort
set_option linter.unusedVariables false
set_option linter.unusedSimpArgs false
set_option maxRecDepth 100000
structure PatFit (x : Pat) : Prop where
  cust : CustFit x.cust
  parts : ∀ p ∈ x.parts, PartFit p
  num : x.parts.length + (if x.tail then 1 else 0) ≤ 32
theorem extract_data (s : ByteArray) (i : Nat) : (s.extract i s.size).data.toList = s.data.toList.drop i := by
  rw [Lib.extract_to_end]
theorem extract_head (s : ByteArray) : (s.extract 0 1).data.toList = s.data.toList.take 1 := by
  rw [Lib.extract_data]; simp
theorem partOf_word {w : ByteArray} (h : isWordB w = true) : partOfP w = ⟨0, w⟩ := by
  obtain ⟨h1, _⟩ := word_ne h
  have h42 := (word_no h).2.2.2.2.1
  unfold partOfP
  split
  · rfl
  · rw [if_pos]
    rw [Lib.toList_data, extract_head]
    obtain ⟨b, l, hl⟩ := List.exists_cons_of_ne_nil h1
    rw [hl] at h42 ⊢
    simp only [List.mem_cons, not_or] at h42
    simp only [List.take_succ_cons, List.take_zero, Bool.not_eq_true', beq_eq_false_iff_ne, ne_eq, List.cons.injEq, and_true]
    exact fun e => h42.1 e.symm
theorem partOf_star {w : ByteArray} (r : List UInt8) (h : w.data.toList = 42 :: r) : partOfP w = if r.isEmpty then ⟨2, ⟨#[]⟩⟩ else ⟨1, ⟨r.toArray⟩⟩ := by
  have hz : w.size = r.length + 1 := by rw [size_data, h]; rfl
  have e1 : (w.extract 0 1).toList = [42] := by rw [Lib.toList_data, extract_head, h]; rfl
  have e2 : (w.extract 1 w.size).data.toList = r := by rw [extract_data, h]; rfl
  have e3 : w.extract 1 w.size = ⟨r.toArray⟩ := bytes_ext (by rw [e2])
  unfold partOfP
  rw [if_neg (by omega), e1, e3, Lib.toList_data]
  simp only [BEq.rfl, Bool.not_true, Bool.false_eq_true, if_false]
  cases r <;> rfl
theorem star_fit : PartFit ⟨2, ⟨#[]⟩⟩ := .inr (.inr ⟨rfl, rfl⟩)
theorem headOk_fit {w : ByteArray} (h : headOkB w = true) : CustFit (partOfP w) := by
  unfold headOkB at h
  rw [Bool.or_eq_true, Lib.toList_data, beq_iff_eq] at h
  rcases h with h | h
  · rw [partOf_star [] h]; exact .inr ⟨rfl, rfl⟩
  · rw [partOf_word (name_word h)]; exact .inl ⟨rfl, h⟩
theorem prefix_two {l : List UInt8} (h : Lib.hasPrefix l [42, 46] = true) : ∃ r, l = 42 :: 46 :: r := by
  unfold Lib.hasPrefix at h
  rw [List.isPrefixOf_iff_prefix] at h
  obtain ⟨r, hr⟩ := h
  exact ⟨r, hr.symm⟩
theorem partOk_fit {w : ByteArray} (h : partOkB w = true) : PartFit (partOfP w) := by
  unfold partOkB at h
  rw [Bool.or_eq_true, Bool.or_eq_true, Lib.toList_data, beq_iff_eq] at h
  rcases h with (h | h) | h
  · rw [partOf_star [] h]; exact star_fit
  · rw [partOf_word h]; exact .inl ⟨rfl, h⟩
  · simp only [Bool.and_eq_true, decide_eq_true_eq] at h
    obtain ⟨⟨h1, h2⟩, h3⟩ := h
    obtain ⟨r, hr⟩ := prefix_two h2
    rw [partOf_star (46 :: r) hr]
    have e : (w.extract 2 w.size).data.toList = r := by rw [extract_data, hr]; rfl
    have hz : w.size = r.length + 2 := by rw [size_data, hr]; rfl
    refine .inr (.inl ⟨rfl, w.extract 2 w.size, h3, ?_, ?_⟩)
    · rw [size_data, e]; omega
    · show (46 :: r) = 46 :: _
      rw [e]
theorem cmpL_fit : ∀ (l : List ByteArray) (acc : List Part) (r : List Part × Bool), (∀ p ∈ acc, PartFit p) → cmpL l acc = some r → (∀ p ∈ r.1, PartFit p) ∧ r.1.length + (if r.2 then 1 else 0) = acc.length + l.length
  | [], acc, r, h, e => by simp [cmpL] at e; subst e; exact ⟨h, by simp⟩
  | w :: l, acc, r, h, e => by
    rw [cmpL] at e
    split at e
    · rename_i hc
      injection e with e; subst e
      simp only [Bool.and_eq_true, List.isEmpty_iff] at hc
      exact ⟨h, by simp [hc.2]⟩
    · split at e
      · rename_i hk
        have := cmpL_fit l (acc ++ [partOfP w]) r (fun p hp => by
          rcases List.mem_append.1 hp with hp | hp
          · exact h p hp
          · rw [List.mem_singleton.1 hp]; exact partOk_fit hk) e
        exact ⟨this.1, by rw [this.2]; simp; omega⟩
      · cases e
theorem compL_fit {l : List ByteArray} {x : Pat} (h : compL l = some x) : PatFit x := by
  cases l with
  | nil => cases h
  | cons l0 r =>
    rw [compL] at h
    by_cases hc : (decide (r.length ≤ 32) && headOkB l0) = true
    · have hc2 := hc
      rw [Bool.and_eq_true, decide_eq_true_eq] at hc2
      rw [if_pos hc] at h
      obtain ⟨y, hy, rfl⟩ := Option.map_eq_some_iff.1 h
      have := cmpL_fit r [] y (fun p hp => by cases hp) hy
      exact ⟨headOk_fit hc2.2, this.1, by show y.1.length + (if y.2 = true then 1 else 0) ≤ 32; have h1 := hc2.1; have h2 := this.2; simp at h2; omega⟩
    · rw [if_neg (by simpa using hc)] at h; cases h
theorem compile_fit {s : ByteArray} {x : Pat} (h : compileB s = some x) : PatFit x := compL_fit h
theorem words_len (ps : List Part) : (wordsL ps).length = ps.length := by simp [wordsL]
def coverL : List Part → List Part → Bool
  | [], _ => true
  | _ :: _, [] => false
  | a :: xs, b :: ys => coversP a.kind a.text b.kind b.text && coverL xs ys
def coverB (x y : Pat) : Bool :=
  coversP x.cust.kind x.cust.text y.cust.kind y.cust.text && !decide (y.parts.length < x.parts.length) && !(decide (x.parts.length < y.parts.length) && !x.tail) && !(y.tail && !x.tail) && coverL x.parts y.parts
end Go.Proofs.YtdlbfjoemabfpaaGreatDoor
namespace Go.Proofs.YtdlbfjoemabfpaaGreatDoor
open Go.RowKit Go.Sort
set_option linter.unusedVariables false
set_option linter.unusedSimpArgs false
set_option maxRecDepth 100000
theorem tail_path (l : List (List UInt8)) : Lib.joinTail [47] l = pathL l := by
  induction l with
  | nil => rfl
  | cons x l ih =>
    simp only [Lib.joinTail, pathL, List.map_cons, List.flatten_cons, List.flatMap_cons] at ih ⊢
    rw [ih]; rfl
theorem join_data (c : ByteArray) (ws : List ByteArray) : (joinS (c :: ws)).data.toList = c.data.toList ++ pathL (lists ws) := by
  unfold joinS lists
  rw [List.map_cons, Lib.join_cons, tail_path]
  rfl
theorem split_join (c : ByteArray) (ws : List ByteArray) (hc : 47 ∉ c.data.toList) (hw : ∀ w ∈ ws, 47 ∉ w.data.toList) : splitB 47 (joinS (c :: ws)) = c :: ws := by
  unfold splitB
  rw [join_data, split_path _ _ hc (by
    intro y hy
    obtain ⟨z, hz, rfl⟩ := List.mem_map.1 hy
    exact hw z hz)]
  have : ∀ z : ByteArray, (⟨z.data.toList.toArray⟩ : ByteArray) = z := fun z => bytes_ext rfl
  simp [lists, Function.comp_def]
theorem str_data (k : Nat) (t : ByteArray) : (stringP k t).data.toList = if k = 0 then t.data.toList else 42 :: t.data.toList := by
  unfold stringP
  split
  · rfl
  · simp
theorem str_fit {p : Part} (hp : PartFit p) : partOkB (stringP p.kind p.text) = true ∧ partOfP (stringP p.kind p.text) = p ∧ 47 ∉ (stringP p.kind p.text).data.toList ∧ (stringP p.kind p.text).data.toList ≠ [42, 42] := by
  obtain ⟨k, t⟩ := p
  have e := str_data k t
  rcases hp with ⟨hk, hw⟩ | ⟨hk, s, hs, hs2, ht⟩ | ⟨hk, ht⟩ <;> dsimp only at * <;> subst hk
  · have e0 : stringP 0 t = t := rfl
    rw [e0]
    refine ⟨?_, partOf_word hw, (word_no hw).1, fun h => ?_⟩
    · unfold partOkB; rw [hw]; simp
    · exact (word_no hw).2.2.2.2.1 (by rw [h]; simp)
  · rw [if_neg (by decide), ht] at e
    refine ⟨?_, ?_, ?_, ?_⟩
    · have h2 : (stringP 1 t).extract 2 (stringP 1 t).size = s := bytes_ext (by rw [extract_data, e]; rfl)
      have hz : (stringP 1 t).size = s.size + 2 := by rw [size_data, size_data, e]; rfl
      unfold partOkB
      rw [h2, hs, e, hz]
      have h34 : decide (s.size + 2 ≤ 34) = true := by simp; omega
      rw [h34]
      simp [Lib.hasPrefix]
    · rw [partOf_star _ e]
      simp only [List.isEmpty_cons, Bool.false_eq_true, if_false]
      exact congrArg (Part.mk 1) (bytes_ext ht.symm)
    · rw [e]
      have := (word_no hs).1
      simp [this]
    · rw [e]; intro h; injection h with _ h; injection h with h _; exact absurd h (by decide)
  · subst ht
    rw [if_neg (by decide)] at e
    refine ⟨?_, ?_, ?_, ?_⟩
    · unfold partOkB; rw [Lib.toList_data, e]; rfl
    · rw [partOf_star _ e]; rfl
    · rw [e]; simp
    · rw [e]; simp
theorem str_cust {p : Part} (hp : CustFit p) : headOkB (stringP p.kind p.text) = true := by
  have e := str_data p.kind p.text
  obtain ⟨k, t⟩ := p
  rcases hp with ⟨hk, hw⟩ | ⟨hk, ht⟩ <;> dsimp only at * <;> subst hk
  · have e0 : stringP 0 t = t := rfl
    rw [e0]; unfold headOkB; rw [hw, Bool.or_true]
  · unfold headOkB
    rw [Lib.toList_data, e, ht]; rfl
def tailL (b : Bool) : List ByteArray := if b then [⟨#[42, 42]⟩] else []
theorem cmpL_str : ∀ (ps acc : List Part) (b : Bool), (∀ p ∈ ps, PartFit p) → cmpL (strL ps ++ tailL b) acc = some (acc ++ ps, b)
  | [], acc, b, _ => by
    cases b
    · simp [strL, tailL, cmpL]
    · simp only [strL, tailL, List.map_nil, List.nil_append, if_true, cmpL]
      rw [if_pos (by rw [Lib.toList_data]; rfl)]
      simp
  | p :: ps, acc, b, h => by
    obtain ⟨h1, h2, h3, h4⟩ := str_fit (h p (by simp))
    have e : strL (p :: ps) ++ tailL b = stringP p.kind p.text :: (strL ps ++ tailL b) := rfl
    rw [e, cmpL, if_neg (by rw [Lib.toList_data]; simp [h4]), if_pos h1, h2, cmpL_str ps _ b fun q hq => h q (by simp [hq])]
    simp
theorem patS_eq (z : Pat) : patS z = joinS (stringP z.cust.kind z.cust.text :: (strL z.parts ++ tailL z.tail)) := rfl
theorem compL_cons (l0 : ByteArray) (r : List ByteArray) : compL (l0 :: r) = if (decide (r.length ≤ 32) && headOkB l0) = true then (cmpL r []).map fun x => ⟨partOfP l0, x.1, x.2⟩ else none := rfl
theorem compile_str {z : Pat} (hz : PatFit z) : compileB (patS z) = some z := by
  unfold compileB
  rw [patS_eq, split_join _ _ (str_fit hz.cust.part).2.2.1 (by
    intro w hw
    rcases List.mem_append.1 hw with hw | hw
    · obtain ⟨p, hp, rfl⟩ := List.mem_map.1 hw
      exact (str_fit (hz.parts p hp)).2.2.1
    · unfold tailL at hw
      split at hw
      · rw [List.mem_singleton.1 hw]; decide
      · cases hw)]
  rw [compL_cons]
  have hn := hz.num
  have hl : (strL z.parts ++ tailL z.tail).length ≤ 32 := by
    unfold strL tailL
    rw [List.length_append, List.length_map]
    cases ht : z.tail <;> simp [ht] at hn ⊢ <;> omega
  rw [if_pos (by rw [Bool.and_eq_true, decide_eq_true_eq]; exact ⟨hl, str_cust hz.cust⟩), cmpL_str _ _ _ hz.parts, (str_fit hz.cust.part).2.1]
  rfl
theorem str_head {w : ByteArray} (h : headOkB w = true) : stringP (partOfP w).kind (partOfP w).text = w := by
  unfold headOkB at h
  rw [Bool.or_eq_true, Lib.toList_data, beq_iff_eq] at h
  rcases h with h | h
  · rw [partOf_star [] h]
    exact bytes_ext (by rw [str_data, if_neg (by decide), h]; rfl)
  · rw [partOf_word (name_word h)]; rfl
theorem str_part {w : ByteArray} (h : partOkB w = true) : stringP (partOfP w).kind (partOfP w).text = w := by
  have hf := partOk_fit h
  unfold partOkB at h
  rw [Bool.or_eq_true, Bool.or_eq_true, Lib.toList_data, beq_iff_eq] at h
  rcases h with (h | h) | h
  · rw [partOf_star [] h]
    exact bytes_ext (by rw [str_data, if_neg (by decide), h]; rfl)
  · rw [partOf_word h]; rfl
  · simp only [Bool.and_eq_true, decide_eq_true_eq] at h
    obtain ⟨⟨h1, h2⟩, h3⟩ := h
    obtain ⟨r, hr⟩ := prefix_two h2
    rw [partOf_star (46 :: r) hr]
    exact bytes_ext (by simp [str_data, hr])
def exText (z : Pat) : ByteArray := joinS (withP z.cust.kind z.cust.text ⟨#[97]⟩ :: wordsL z.parts)
def badL : List Part → List Part → Option (List ByteArray)
  | [], _ => none
  | _ :: _, [] => none
  | a :: xs, b :: ys => if coversP a.kind a.text b.kind b.text then (badL xs ys).map (withP b.kind b.text ⟨#[97]⟩ :: ·) else some (withoutP b.kind b.text a.kind a.text :: wordsL ys)
def coverW (x y : Pat) : ByteArray :=
  if !coversP x.cust.kind x.cust.text y.cust.kind y.cust.text then joinS (withoutP y.cust.kind y.cust.text x.cust.kind x.cust.text :: wordsL y.parts)
  else if decide (y.parts.length < x.parts.length) || (decide (x.parts.length < y.parts.length) && !x.tail) then exText y
  else if y.tail && !x.tail then joinS (withP y.cust.kind y.cust.text ⟨#[97]⟩ :: (wordsL y.parts ++ [⟨#[97]⟩]))
  else match badL x.parts y.parts with
    | some ws => joinS (withP y.cust.kind y.cust.text ⟨#[97]⟩ :: ws)
    | none => ⟨#[]⟩
end Go.Proofs.YtdlbfjoemabfpaaGreatDoor
namespace Go.Proofs.YtdlbfjoemabfpaaGreatDoor
open Go.RowKit Go.Sort
set_option linter.unusedVariables false
set_option linter.unusedSimpArgs false
set_option maxRecDepth 100000
def patOk (p : ByteArray) : Bool := decide (p.size = 0) || (compileB p).isSome
def pmeet (p q : ByteArray) : Option ByteArray := if p.size = 0 then some q else if q.size = 0 then some p else match compileB p, compileB q with
  | some x, some y => (commonP x y).map patS
  | _, _ => none
end Go.Proofs.YtdlbfjoemabfpaaGreatDoor
namespace Go.Proofs.YtdlbfjoemabfpaaGreatDoor
open Go.RowKit Go.Sort
set_option linter.unusedVariables false
set_option linter.unusedSimpArgs false
set_option maxRecDepth 100000
section
variable {α : Type}
theorem okK_at {lt : α → α → Bool} {right : α → Bool} {l : List α} (h : (List.range l.length).all (okK lt right l) = true) (k : Nat) (hk : k < l.length) : right l[k] = true ∧ ∀ j, (hj : j + 1 = k) → lt (l[j]'(by omega)) l[k] = true := by
  have := (List.all_eq_true.1 h) k (by simpa using hk)
  unfold okK at this
  rw [List.getElem?_eq_getElem hk] at this
  simp only [Bool.and_eq_true] at this
  refine ⟨this.1, fun j hj => ?_⟩
  subst hj
  have h2 := this.2
  rw [Nat.add_sub_cancel, List.getElem?_eq_getElem (show j < l.length by omega)] at h2
  simpa using h2
theorem setB_iff {lt : α → α → Bool} (tr : ∀ a b c, lt a b = true → lt b c = true → lt a c = true) (right : α → Bool) (most : Nat) (l : List α) : setB lt right most l = true ↔ (∀ x ∈ l, right x = true) ∧ l.Pairwise (fun a b => lt a b = true) ∧ l.length ≤ most := by
  unfold setB
  rw [Bool.and_eq_true, decide_eq_true_eq]
  constructor
  · rintro ⟨h, hm⟩
    refine ⟨fun x hx => ?_, List.pairwise_iff_getElem.2 fun i j hi hj hij => ?_, hm⟩
    · obtain ⟨k, hk, rfl⟩ := List.getElem_of_mem hx
      exact (okK_at h k hk).1
    · have key : ∀ d i, (hd : i + d + 1 < l.length) → lt (l[i]'(by omega)) (l[i + d + 1]'hd) = true := by
        intro d
        induction d with
        | zero => intro i hd; exact (okK_at h (i + 1) hd).2 i rfl
        | succ d ih => intro i hd; exact tr _ _ _ (ih i (by omega)) ((okK_at h (i + (d + 1) + 1) hd).2 (i + d + 1) (by omega))
      have := key (j - i - 1) i (by omega)
      simpa [show i + (j - i - 1) + 1 = j by omega] using this
  · rintro ⟨h1, h2, h3⟩
    refine ⟨List.all_eq_true.2 fun k hk => ?_, h3⟩
    have hk : k < l.length := by simpa using hk
    unfold okK
    rw [List.getElem?_eq_getElem hk]
    simp only [Bool.and_eq_true, h1 _ (List.getElem_mem hk), true_and]
    cases k with
    | zero => rfl
    | succ k =>
      rw [Nat.add_sub_cancel, List.getElem?_eq_getElem (show k < l.length by omega)]
      simp [List.pairwise_iff_getElem.1 h2 k (k + 1) (by omega) hk (by omega)]
variable [DecidableEq α]
def allowsL (l : List α) (x : α) : Bool := l.isEmpty || l.contains x
def bothF (a b : List α) : List α := (if a.isEmpty then b else a).filter (allowsL b)
def bothOk (a b : List α) : Bool := !(bothF a b).isEmpty || (if a.isEmpty then b else a).isEmpty
def bothO (a b : List α) : Option (List α) := if bothOk a b then some (bothF a b) else none
end
end Go.Proofs.YtdlbfjoemabfpaaGreatDoor
