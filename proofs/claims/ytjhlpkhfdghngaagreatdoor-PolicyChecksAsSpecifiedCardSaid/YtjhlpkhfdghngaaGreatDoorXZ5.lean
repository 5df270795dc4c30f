/- What 'Match' returns. -/
import Derived.Test.YtjhlpkhfdghngaaGreatDoorXZ4
import Derived.Test.YtjhlpkhfdghngaaGreatDoorProg
import Derived.WalkKit
import Derived.WalkSpells
import Derived.WalkLawsBesides
import Derived.Below
import Derived.Deep.QuietTactic
import Derived.BigQuiet
import Derived.Lib.QuietBelow
import Derived.Lib.Strings
import Derived.Lib.Hide
import Derived.Deep.RegionWith
import Derived.Deep.RegionHeld3
import Derived.Lib.IndexBytes
import Derived.Deep.DeepCutAuto
import Derived.Test.YtjhlpkhfdghngaaGreatDoorXZ0
import Derived.Sort.Walk0
namespace Go.Proofs.YtjhlpkhfdghngaaGreatDoor
open Go.RowKit Go.Sort
set_option linter.unusedVariables false
set_option linter.unusedSimpArgs false
set_option maxRecDepth 100000
structure PatGood (p : Pat) : Prop where
  kind : p.cust.kind ≤ 2
  text : p.cust.text.size ≤ 100000
  parts : PartsOk p.parts
  num : p.parts.length ≤ 32
theorem cmpL_good : ∀ (l : List ByteArray) (acc : List Part) (r : List Part × Bool), (∀ x ∈ l, x.size ≤ 100000) → PartsOk acc → cmpL l acc = some r → PartsOk r.1 ∧ r.1.length ≤ acc.length + l.length
  | [], acc, r, _, h, e => by simp [cmpL] at e; subst e; exact ⟨h, by simp⟩
  | w :: l, acc, r, hl, h, e => by
    rw [cmpL] at e
    split at e
    · injection e with e; subst e; exact ⟨h, by simp⟩
    · split at e
      · have hw := hl w (by simp)
        have := cmpL_good l (acc ++ [partOfP w]) r (fun x hx => hl x (by simp [hx])) (by
          intro x hx
          rcases List.mem_append.1 hx with hx | hx
          · exact h x hx
          · rw [List.mem_singleton.1 hx]
            exact ⟨partOfP_kind w, Nat.le_trans (partOfP_size w) hw⟩) e
        refine ⟨this.1, ?_⟩
        have h2 := this.2
        simp at h2 ⊢; omega
      · cases e
theorem compile_good (s : ByteArray) (hs : s.size ≤ 100000) (p : Pat) (h : compileB s = some p) : PatGood p := by
  unfold compileB at h
  have hsz := splitB_size 47 s
  generalize splitB 47 s = l at *
  cases l with
  | nil => cases h
  | cons l0 r =>
    simp only [compL] at h
    split at h
    · rename_i hc
      rw [Bool.and_eq_true, decide_eq_true_eq] at hc
      cases hq : cmpL r [] with
      | none => rw [hq] at h; cases h
      | some x =>
        rw [hq, Option.map_some] at h
        injection h with h
        subst h
        have h0 := hsz l0 (by simp)
        have := cmpL_good r [] x (fun y hy => Nat.le_trans (hsz y (by simp [hy])) hs) (fun y hy => by cases hy) hq
        exact ⟨partOfP_kind l0, by have := partOfP_size l0; show (partOfP l0).text.size ≤ _; omega, this.1, by have h1 := hc.1; have h2 := this.2; show x.1.length ≤ 32; simp at h2; omega⟩
    · cases h
def matchesL : List Part → List ByteArray → Bool
  | [], _ => true
  | p :: ps, w :: ws => hasP p.kind p.text w && matchesL ps ws
  | _ :: _, [] => false
def matchP (x : Pat) (a : Adr) : Bool :=
  hasP x.cust.kind x.cust.text a.cust && !decide (a.path.length < x.parts.length) && !(decide (x.parts.length < a.path.length) && !x.tail) && matchesL x.parts a.path
def matchB (p q : ByteArray) : Bool := match compileB p with
  | none => false
  | some x => readB q && matchP x (parseB q).1
set_option maxHeartbeats 4000000 in
theorem match_any (p q : ByteArray) (w : World) (hp : p.size ≤ 100000) (hq : q.size ≤ 100000) (hE : Env w) : Calls Tryz.prog 21 #[.string p, .string q] w (Ret w (.bool (matchB p q))) := by
  have c1 := fun W h => compile_any p W hp h
  have c2 := fun W h => read_any q W (by omega) h
  have hg := compile_good p hp
  unfold matchB
  have hcs : (parseB q).1.cust.size ≤ 100000 ∧ (parseB q).1.path.length ≤ 32 ∧ ∀ x ∈ (parseB q).1.path, x.size ≤ 64 := by
    rcases parse_errno q with h | h | h
    · have := parse_good q h
      exact ⟨by have := size_of_name this.name; omega, this.parts, fun x hx => size_of_word (this.words x hx)⟩
    all_goals rw [parse_err q (by omega)]; exact ⟨by decide, by decide, by simp [noAdr]⟩
  generalize compileB p = r at *
  generalize readB q = k2 at *
  generalize (parseB q).1 = a at *
  obtain ⟨ac, ap, aq⟩ := a
  dsimp only at hcs
  obtain ⟨hac, hap, hapz⟩ := hcs
  have HD := Lib.hid c2
  have HC := Lib.hid c1
  clear c1 c2
  cases r with
  | none =>
    clear hg
    dsimp only
    go_enter Tryz.func21, Tryz.ntmps21
    go_wp2_with (first | (go_at_call 72; refine (HC.out _ hE).mono ?_; rintro e w1 ⟨hb1, k, t, A, n, c, b, rfl⟩) | (go_at_call 73; refine (HD.out _ (Env.keep (Env.keep hE hb1) (balloc (Below.refl _ _) _))).mono ?_; rintro e w2 ⟨hb2, B, cb, D, cd, rfl, hRq, _⟩; obtain ⟨hc2, hf2⟩ := bcell hb2; have hz2 : w1.heap.size < w2.heap.size := (by have := hb2.size; simp at this; omega)))
    go_ret
    exact ⟨rfl, belB⟩
  | some x =>
    obtain ⟨h1, h2, h3, h4⟩ := hg x rfl
    clear hg
    obtain ⟨⟨kd, tx⟩, ps, tl⟩ := x
    dsimp only at h1 h2 h3 h4 ⊢
    unfold matchP
    dsimp only
    obtain ⟨n, hn⟩ : ∃ n, n = ps.length := ⟨_, rfl⟩
    obtain ⟨na, hna⟩ : ∃ na, na = ap.length := ⟨_, rfl⟩
    rw [← hn, ← hna]
    have HC' : Hid (∀ W, Env W → Calls Tryz.prog 72 #[.string p] W fun e w' => Below W.heap.size W w' ∧ ∃ A c, e = .returned (.tuple #[.agg #[.int .i64 kd, .string tx, .slice A n c, .bool tl], .bool true]) ∧ Reads w' 2 A n (partCells ps)) := Lib.hid (fun W h => by rw [hn]; exact (HC.out W h).mono (by rintro e w' ⟨hb, A, c, rfl, hR, _⟩; exact ⟨hb, A, c, rfl, hR⟩))
    have HD' : Hid (∀ W, Env W → Calls Tryz.prog 73 #[.string q] W fun e w' => Below W.heap.size W w' ∧ ∃ B cb D cd, e = .returned (.tuple #[.agg #[.string ac, .slice B na cb, .slice D aq.length cd], .bool k2]) ∧ Reads w' 1 B na (ap.map .string) ∧ True) := Lib.hid (fun W h => (HD.out W h).mono (by
      rintro e w' ⟨hb, A, ca, B, cb, rfl, h5, h6⟩; rw [hna]; exact ⟨hb, A, ca, B, cb, rfl, h5, trivial⟩))
    have HN := Lib.hid hn
    have HNA := Lib.hid hna
    rw [← hn] at h4
    rw [← hna] at hap
    clear HC HD hn hna
    have HC := HC'; have HD := HD'
    clear HC' HD'
    have cH := fun W => has_any kd tx ac W (by omega) (by omega) h1
    generalize hasP kd tx ac = k3 at *
    have HH := Lib.hid cH
    clear cH
    cases k2
    · simp only [Bool.false_and]
      go_enter Tryz.func21, Tryz.ntmps21
      go_wp2_with (first | (go_at_call 72; refine (HC.out _ hE).mono ?_; rintro e w1 ⟨hb1, A, c, rfl, hRp⟩) | (go_at_call 73; refine (HD.out _ (Env.keep (Env.keep hE hb1) (balloc (Below.refl _ _) _))).mono ?_; rintro e w2 ⟨hb2, B, cb, D, cd, rfl, hRq, _⟩; obtain ⟨hc2, hf2⟩ := bcell hb2; have hz2 : w1.heap.size < w2.heap.size := (by have := hb2.size; simp at this; omega)))
      go_ret
      exact ⟨rfl, belB⟩
    cases k3
    · simp only [Bool.false_and, Bool.and_false]
      go_enter Tryz.func21, Tryz.ntmps21
      go_wp2_with (first | (go_at_call 72; refine (HC.out _ hE).mono ?_; rintro e w1 ⟨hb1, A, c, rfl, hRp⟩) | (go_at_call 73; refine (HD.out _ (Env.keep (Env.keep hE hb1) (balloc (Below.refl _ _) _))).mono ?_; rintro e w2 ⟨hb2, B, cb, D, cd, rfl, hRq, _⟩; obtain ⟨hc2, hf2⟩ := bcell hb2; have hz2 : w1.heap.size < w2.heap.size := (by have := hb2.size; simp at this; omega)) | (go_at_call 74; refine (HH.out _).mono ?_; rintro e w3 ⟨rfl, hb3⟩; obtain ⟨hc3, hf3⟩ := bcell hb3; have hz3 : w2.heap.size < w3.heap.size := (by have := hb3.size; simp at this; omega)))
      go_ret
      exact ⟨rfl, belB⟩
    by_cases hlt : na < n
    · have hd1 : decide ((na : Int) < (n : Int)) = true := by simp; omega
      rw [show decide (na < n) = true by simpa using hlt]
      simp only [Bool.not_true, Bool.and_false, Bool.false_and]
      go_enter Tryz.func21, Tryz.ntmps21
      go_wp2_with (first | (go_at_call 72; refine (HC.out _ hE).mono ?_; rintro e w1 ⟨hb1, A, c, rfl, hRp⟩) | (go_at_call 73; refine (HD.out _ (Env.keep (Env.keep hE hb1) (balloc (Below.refl _ _) _))).mono ?_; rintro e w2 ⟨hb2, B, cb, D, cd, rfl, hRq, _⟩; obtain ⟨hc2, hf2⟩ := bcell hb2; have hz2 : w1.heap.size < w2.heap.size := (by have := hb2.size; simp at this; omega)) | (go_at_call 74; refine (HH.out _).mono ?_; rintro e w3 ⟨rfl, hb3⟩; obtain ⟨hc3, hf3⟩ := bcell hb3; have hz3 : w2.heap.size < w3.heap.size := (by have := hb3.size; simp at this; omega)))
      go_ret
      exact ⟨rfl, belB⟩
    have hd1 : decide ((na : Int) < (n : Int)) = false := by simp; omega
    rw [show decide (na < n) = false by simpa using hlt]
    simp only [Bool.not_false, Bool.and_true, Bool.true_and]
    have hrest : (n < na ∧ tl = false) ∨ (¬ n < na) ∨ (n < na ∧ tl = true) := by cases tl <;> simp <;> omega
    rcases hrest with ⟨hgt, rfl⟩ | hgt | ⟨hgt, rfl⟩
    · have hd2 : decide ((n : Int) < (na : Int)) = true := by simp; omega
      rw [show decide (n < na) = true by simpa using hgt]
      simp only [Bool.not_false, Bool.and_self, Bool.not_true, Bool.false_and]
      go_enter Tryz.func21, Tryz.ntmps21
      go_wp2_with (first | (go_at_call 72; refine (HC.out _ hE).mono ?_; rintro e w1 ⟨hb1, A, c, rfl, hRp⟩) | (go_at_call 73; refine (HD.out _ (Env.keep (Env.keep hE hb1) (balloc (Below.refl _ _) _))).mono ?_; rintro e w2 ⟨hb2, B, cb, D, cd, rfl, hRq, _⟩; obtain ⟨hc2, hf2⟩ := bcell hb2; have hz2 : w1.heap.size < w2.heap.size := (by have := hb2.size; simp at this; omega)) | (go_at_call 74; refine (HH.out _).mono ?_; rintro e w3 ⟨rfl, hb3⟩; obtain ⟨hc3, hf3⟩ := bcell hb3; have hz3 : w2.heap.size < w3.heap.size := (by have := hb3.size; simp at this; omega)))
      go_ret
      exact ⟨rfl, belB⟩
    · have hd2 : decide ((n : Int) < (na : Int)) = false := by simp; omega
      rw [show decide (n < na) = false by simpa using hgt]
      simp only [Bool.false_and, Bool.not_false, Bool.true_and]
      generalize hres : matchesL ps ap = res
      have HRES := Lib.hid hres
      clear hres
      go_enter Tryz.func21, Tryz.ntmps21
      go_wp2_with (first | (go_at_call 72; refine (HC.out _ hE).mono ?_; rintro e w1 ⟨hb1, A, c, rfl, hRp⟩) | (go_at_call 73; refine (HD.out _ (Env.keep (Env.keep hE hb1) (balloc (Below.refl _ _) _))).mono ?_; rintro e w2 ⟨hb2, B, cb, D, cd, rfl, hRq, _⟩; obtain ⟨hc2, hf2⟩ := bcell hb2; have hz2 : w1.heap.size < w2.heap.size := (by have := hb2.size; simp at this; omega)) | (go_at_call 74; refine (HH.out _).mono ?_; rintro e w3 ⟨rfl, hb3⟩; obtain ⟨hc3, hf3⟩ := bcell hb3; have hz3 : w2.heap.size < w3.heap.size := (by have := hb3.size; simp at this; omega)))
      have y2 : w3.cell? ⟨w2.heap.size, 1, none⟩ = some (.slice B na cb) := (hc3 _ _ (by simp)).trans (by simp [go_sem])
      have hRp3 : Reads w3 2 A n (partCells ps) := hRp.keep belB
      have hRq3 : Reads w3 1 B na (ap.map .string) := hRq.keep belB
      have hbw3 : Below w.heap.size w w3 := belB
      have hnna : n ≤ na := by omega
      clear hc2 hf2 hc3 hf3 hRp hRq
      go_loopw [61] (fun vi wr => ∃ k : Nat, (vi = .int .i64 k ∧ k ≤ n) ∧ Hid (matchesL (ps.drop k) (ap.drop k) = res) ∧ Below w3.heap.size w3 wr) (fun vi _ => n - (intOf vi).toNat)
      case atStart => exact ⟨0, ⟨rfl, Nat.zero_le _⟩, HRES, Below.refl _ _⟩
      case round =>
        obtain ⟨k, ⟨rfl, hk⟩, HK, hbr⟩ := hrel
        by_cases hlt : k < n
        · obtain ⟨p', hp'⟩ : ∃ p, ps[k]? = some p := ⟨_, List.getElem?_eq_getElem (by have := HN.out; omega)⟩
          obtain ⟨x', hx'⟩ : ∃ p, ap[k]? = some p := ⟨_, List.getElem?_eq_getElem (by have := HNA.out; omega)⟩
          obtain ⟨hpk, hpt⟩ := h3 p' (List.mem_of_getElem? hp')
          have hxz := hapz x' (List.mem_of_getElem? hx')
          obtain ⟨pb, po, rfl, hcell⟩ := (hRp3.keep hbr).2 (by omega)
          obtain ⟨qb, qo, rfl, hcellq⟩ := (hRq3.keep hbr).2 (by omega)
          obtain ⟨e1, e2⟩ := partCells_at ps k p' hp'
          have hc1 : wr.cell? ⟨pb, po + k * 2, none⟩ = _ := hcell _ _ e1
          have hc2 : wr.cell? ⟨pb, po + k * 2 + 1, none⟩ = _ := hcell _ _ e2
          have hc3 : wr.cell? ⟨qb, qo + k, none⟩ = some (.string x') := hcellq _ _ (by simp [hx'])
          have hdp : ps.drop k = p' :: ps.drop (k + 1) := by
            obtain ⟨hl2, rfl⟩ := List.getElem?_eq_some_iff.1 hp'
            exact List.drop_eq_getElem_cons hl2
          have hdx : ap.drop k = x' :: ap.drop (k + 1) := by
            obtain ⟨hl2, rfl⟩ := List.getElem?_eq_some_iff.1 hx'
            exact List.drop_eq_getElem_cons hl2
          have hm := HK.out
          rw [hdp, hdx, matchesL] at hm
          have cW := fun W => has_any p'.kind p'.text x' W (by omega) (by omega) hpk
          obtain ⟨pk, pt⟩ := p'
          dsimp only at hc1 hc2 cW hm
          have y2r := cell_keep hbr y2
          have g1 : (wr.alloc (.cells #[.int .i64 pk, .string pt] 109)).cell? ⟨wr.heap.size, 0, none⟩ = some (.int .i64 pk) := by simp [go_sem]
          have g2 : (wr.alloc (.cells #[.int .i64 pk, .string pt] 109)).cell? ⟨wr.heap.size, 1, none⟩ = some (.string pt) := by simp [go_sem]
          have g3 : (wr.alloc (.cells #[.int .i64 pk, .string pt] 109)).cell? ⟨w2.heap.size, 1, none⟩ = some (.slice (some ⟨qb, qo, none⟩) na cb) := cell_keep (balloc (Below.refl _ _) _) y2r
          have g4 : (wr.alloc (.cells #[.int .i64 pk, .string pt] 109)).cell? ⟨qb, qo + k, none⟩ = some (.string x') := cell_keep (balloc (Below.refl _ _) _) hc3
          have hk0 : (0 : Int) ≤ (k : Int) := by omega
          have hkm : (k : Int) < (na : Int) := by omega
          clear hp' hx' hcell hcellq e1 e2 hdp hdx HK
          cases hh : hasP pk pt x'
          · rw [hh] at cW hm
            have HW := Lib.hid cW
            have HM2 := Lib.hid hm
            clear cW hm hh
            go_wp2_with fail
            have k1 := cell_regrown g1; have k2 := cell_regrown g2; have k3 := cell_regrown g3; have k4 := cell_regrown g4
            refine wp_region_quiet_below (by kernel_rfl) (by kernel_rfl) ?_; (repeat (any_goals (first | go_big_quiet_step ((first | exact qcalls HW.out _ _)) | quiet_step ((first | exact qcalls HW.out _ _))))); refine wpQuiet_nil ?_; intro _ hwq; obtain ⟨⟨dq, osq⟩, hwq⟩ := hwq; subst hwq; have hb4 := below_regrown (wr.alloc (.cells #[.int .i64 pk, .string pt] 109)) dq osq; generalize grow (redrawn (wr.alloc (.cells #[.int .i64 pk, .string pt] 109)) dq) osq = w4 at *
            go_wp2
            go_ret
            exact ⟨ret_bool (by have := HM2.out; simpa using this), belB⟩
          · rw [hh] at cW hm
            have HW := Lib.hid cW
            have HM2 : Hid (matchesL (ps.drop (k + 1)) (ap.drop (k + 1)) = res) := Lib.hid (by simpa using hm)
            clear cW hm hh
            go_wp2_with fail
            have k1 := cell_regrown g1; have k2 := cell_regrown g2; have k3 := cell_regrown g3; have k4 := cell_regrown g4
            refine wp_region_quiet_below (by kernel_rfl) (by kernel_rfl) ?_; (repeat (any_goals (first | go_big_quiet_step ((first | exact qcalls HW.out _ _)) | quiet_step ((first | exact qcalls HW.out _ _))))); refine wpQuiet_nil ?_; intro _ hwq; obtain ⟨⟨dq, osq⟩, hwq⟩ := hwq; subst hwq; have hb4 := below_regrown (wr.alloc (.cells #[.int .i64 pk, .string pt] 109)) dq osq; generalize grow (redrawn (wr.alloc (.cells #[.int .i64 pk, .string pt] 109)) dq) osq = w4 at *
            go_wp2
            exact ⟨⟨k + 1, ⟨by go_num, by omega⟩, HM2, bstep (balloc hbr _) hb4⟩, by simp [intOf]; omega⟩
        · obtain rfl : k = n := by omega
          have hm : res = true := by
            have := HK.out
            rw [HN.out, List.drop_eq_nil_of_le (Nat.le_refl _), matchesL] at this
            exact this.symm
          subst hm
          go_wp2
          go_ret
          exact ⟨rfl, belB⟩
    · have hd2 : decide ((n : Int) < (na : Int)) = true := by simp; omega
      rw [show decide (n < na) = true by simpa using hgt]
      simp only [Bool.not_true, Bool.and_false, Bool.not_false, Bool.true_and]
      generalize hres : matchesL ps ap = res
      have HRES := Lib.hid hres
      clear hres
      go_enter Tryz.func21, Tryz.ntmps21
      go_wp2_with (first | (go_at_call 72; refine (HC.out _ hE).mono ?_; rintro e w1 ⟨hb1, A, c, rfl, hRp⟩) | (go_at_call 73; refine (HD.out _ (Env.keep (Env.keep hE hb1) (balloc (Below.refl _ _) _))).mono ?_; rintro e w2 ⟨hb2, B, cb, D, cd, rfl, hRq, _⟩; obtain ⟨hc2, hf2⟩ := bcell hb2; have hz2 : w1.heap.size < w2.heap.size := (by have := hb2.size; simp at this; omega)) | (go_at_call 74; refine (HH.out _).mono ?_; rintro e w3 ⟨rfl, hb3⟩; obtain ⟨hc3, hf3⟩ := bcell hb3; have hz3 : w2.heap.size < w3.heap.size := (by have := hb3.size; simp at this; omega)))
      have y2 : w3.cell? ⟨w2.heap.size, 1, none⟩ = some (.slice B na cb) := (hc3 _ _ (by simp)).trans (by simp [go_sem])
      have hRp3 : Reads w3 2 A n (partCells ps) := hRp.keep belB
      have hRq3 : Reads w3 1 B na (ap.map .string) := hRq.keep belB
      have hbw3 : Below w.heap.size w w3 := belB
      have hnna : n ≤ na := by omega
      clear hc2 hf2 hc3 hf3 hRp hRq
      go_loopw [61] (fun vi wr => ∃ k : Nat, (vi = .int .i64 k ∧ k ≤ n) ∧ Hid (matchesL (ps.drop k) (ap.drop k) = res) ∧ Below w3.heap.size w3 wr) (fun vi _ => n - (intOf vi).toNat)
      case atStart => exact ⟨0, ⟨rfl, Nat.zero_le _⟩, HRES, Below.refl _ _⟩
      case round =>
        obtain ⟨k, ⟨rfl, hk⟩, HK, hbr⟩ := hrel
        by_cases hlt : k < n
        · obtain ⟨p', hp'⟩ : ∃ p, ps[k]? = some p := ⟨_, List.getElem?_eq_getElem (by have := HN.out; omega)⟩
          obtain ⟨x', hx'⟩ : ∃ p, ap[k]? = some p := ⟨_, List.getElem?_eq_getElem (by have := HNA.out; omega)⟩
          obtain ⟨hpk, hpt⟩ := h3 p' (List.mem_of_getElem? hp')
          have hxz := hapz x' (List.mem_of_getElem? hx')
          obtain ⟨pb, po, rfl, hcell⟩ := (hRp3.keep hbr).2 (by omega)
          obtain ⟨qb, qo, rfl, hcellq⟩ := (hRq3.keep hbr).2 (by omega)
          obtain ⟨e1, e2⟩ := partCells_at ps k p' hp'
          have hc1 : wr.cell? ⟨pb, po + k * 2, none⟩ = _ := hcell _ _ e1
          have hc2 : wr.cell? ⟨pb, po + k * 2 + 1, none⟩ = _ := hcell _ _ e2
          have hc3 : wr.cell? ⟨qb, qo + k, none⟩ = some (.string x') := hcellq _ _ (by simp [hx'])
          have hdp : ps.drop k = p' :: ps.drop (k + 1) := by
            obtain ⟨hl2, rfl⟩ := List.getElem?_eq_some_iff.1 hp'
            exact List.drop_eq_getElem_cons hl2
          have hdx : ap.drop k = x' :: ap.drop (k + 1) := by
            obtain ⟨hl2, rfl⟩ := List.getElem?_eq_some_iff.1 hx'
            exact List.drop_eq_getElem_cons hl2
          have hm := HK.out
          rw [hdp, hdx, matchesL] at hm
          have cW := fun W => has_any p'.kind p'.text x' W (by omega) (by omega) hpk
          obtain ⟨pk, pt⟩ := p'
          dsimp only at hc1 hc2 cW hm
          have y2r := cell_keep hbr y2
          have g1 : (wr.alloc (.cells #[.int .i64 pk, .string pt] 109)).cell? ⟨wr.heap.size, 0, none⟩ = some (.int .i64 pk) := by simp [go_sem]
          have g2 : (wr.alloc (.cells #[.int .i64 pk, .string pt] 109)).cell? ⟨wr.heap.size, 1, none⟩ = some (.string pt) := by simp [go_sem]
          have g3 : (wr.alloc (.cells #[.int .i64 pk, .string pt] 109)).cell? ⟨w2.heap.size, 1, none⟩ = some (.slice (some ⟨qb, qo, none⟩) na cb) := cell_keep (balloc (Below.refl _ _) _) y2r
          have g4 : (wr.alloc (.cells #[.int .i64 pk, .string pt] 109)).cell? ⟨qb, qo + k, none⟩ = some (.string x') := cell_keep (balloc (Below.refl _ _) _) hc3
          have hk0 : (0 : Int) ≤ (k : Int) := by omega
          have hkm : (k : Int) < (na : Int) := by omega
          clear hp' hx' hcell hcellq e1 e2 hdp hdx HK
          cases hh : hasP pk pt x'
          · rw [hh] at cW hm
            have HW := Lib.hid cW
            have HM2 := Lib.hid hm
            clear cW hm hh
            go_wp2_with fail
            have k1 := cell_regrown g1; have k2 := cell_regrown g2; have k3 := cell_regrown g3; have k4 := cell_regrown g4
            refine wp_region_quiet_below (by kernel_rfl) (by kernel_rfl) ?_; (repeat (any_goals (first | go_big_quiet_step ((first | exact qcalls HW.out _ _)) | quiet_step ((first | exact qcalls HW.out _ _))))); refine wpQuiet_nil ?_; intro _ hwq; obtain ⟨⟨dq, osq⟩, hwq⟩ := hwq; subst hwq; have hb4 := below_regrown (wr.alloc (.cells #[.int .i64 pk, .string pt] 109)) dq osq; generalize grow (redrawn (wr.alloc (.cells #[.int .i64 pk, .string pt] 109)) dq) osq = w4 at *
            go_wp2
            go_ret
            exact ⟨ret_bool (by have := HM2.out; simpa using this), belB⟩
          · rw [hh] at cW hm
            have HW := Lib.hid cW
            have HM2 : Hid (matchesL (ps.drop (k + 1)) (ap.drop (k + 1)) = res) := Lib.hid (by simpa using hm)
            clear cW hm hh
            go_wp2_with fail
            have k1 := cell_regrown g1; have k2 := cell_regrown g2; have k3 := cell_regrown g3; have k4 := cell_regrown g4
            refine wp_region_quiet_below (by kernel_rfl) (by kernel_rfl) ?_; (repeat (any_goals (first | go_big_quiet_step ((first | exact qcalls HW.out _ _)) | quiet_step ((first | exact qcalls HW.out _ _))))); refine wpQuiet_nil ?_; intro _ hwq; obtain ⟨⟨dq, osq⟩, hwq⟩ := hwq; subst hwq; have hb4 := below_regrown (wr.alloc (.cells #[.int .i64 pk, .string pt] 109)) dq osq; generalize grow (redrawn (wr.alloc (.cells #[.int .i64 pk, .string pt] 109)) dq) osq = w4 at *
            go_wp2
            exact ⟨⟨k + 1, ⟨by go_num, by omega⟩, HM2, bstep (balloc hbr _) hb4⟩, by simp [intOf]; omega⟩
        · obtain rfl : k = n := by omega
          have hm : res = true := by
            have := HK.out
            rw [HN.out, List.drop_eq_nil_of_le (Nat.le_refl _), matchesL] at this
            exact this.symm
          subst hm
          go_wp2
          go_ret
          exact ⟨rfl, belB⟩
end Go.Proofs.YtjhlpkhfdghngaaGreatDoor
namespace Go.Proofs.YtjhlpkhfdghngaaGreatDoor
open Go.RowKit Go.Sort
set_option linter.unusedVariables false
set_option linter.unusedSimpArgs false
set_option maxRecDepth 100000
def mtL : List Part → List Part → List Part → Option (List Part)
  | acc, [], _ => some acc
  | acc, a :: r, [] => mtL (acc ++ [a]) r []
  | acc, a :: r, b :: q => if meetsP a b then mtL (acc ++ [meetP a b]) r q else none
def commonO (x y : Pat) : Option Pat :=
  if !meetsP x.cust y.cust || (decide (y.parts.length < x.parts.length) && !y.tail) then none else (mtL [] x.parts y.parts).map fun l => ⟨meetP x.cust y.cust, l, x.tail && y.tail⟩
def commonP (x y : Pat) : Option Pat := if x.parts.length < y.parts.length then commonO y x else commonO x y
theorem PBox.far {w : World} {g k : Nat} {t : ByteArray} {v : Value} {b : Bool} (h : PBox w g k t v b) (p : Addr) (u : Value) (hp : g ≠ p.block) : PBox (w.setCell p u) g k t v b := (Below.heap_setCell w p u g hp).trans h
end Go.Proofs.YtjhlpkhfdghngaaGreatDoor
namespace Go.Proofs.YtjhlpkhfdghngaaGreatDoor
open Go.RowKit Go.Sort
set_option linter.unusedVariables false
set_option linter.unusedSimpArgs false
set_option maxRecDepth 100000
theorem extract_data (s : ByteArray) (i : Nat) : (s.extract i s.size).data.toList = s.data.toList.drop i := by
  rw [Lib.extract_to_end]
theorem extract_head (s : ByteArray) : (s.extract 0 1).data.toList = s.data.toList.take 1 := by
  rw [Lib.extract_data]; simp
theorem partOf_word {w : ByteArray} (h : isWordB w = true) : partOfP w = ⟨0, w⟩ := by
  obtain ⟨h1, _⟩ := word_ne h
  have h42 := (word_no h).2.2.2.2.1
  unfold partOfP
  split
  · rfl
  · rw [if_pos]
    rw [Lib.toList_data, extract_head]
    obtain ⟨b, l, hl⟩ := List.exists_cons_of_ne_nil h1
    rw [hl] at h42 ⊢
    simp only [List.mem_cons, not_or] at h42
    simp only [List.take_succ_cons, List.take_zero, Bool.not_eq_true', beq_eq_false_iff_ne, ne_eq, List.cons.injEq, and_true]
    exact fun e => h42.1 e.symm
theorem partOf_star {w : ByteArray} (r : List UInt8) (h : w.data.toList = 42 :: r) : partOfP w = if r.isEmpty then ⟨2, ⟨#[]⟩⟩ else ⟨1, ⟨r.toArray⟩⟩ := by
  have hz : w.size = r.length + 1 := by rw [size_data, h]; rfl
  have e1 : (w.extract 0 1).toList = [42] := by rw [Lib.toList_data, extract_head, h]; rfl
  have e2 : (w.extract 1 w.size).data.toList = r := by rw [extract_data, h]; rfl
  have e3 : w.extract 1 w.size = ⟨r.toArray⟩ := bytes_ext (by rw [e2])
  unfold partOfP
  rw [if_neg (by omega), e1, e3, Lib.toList_data]
  simp only [BEq.rfl, Bool.not_true, Bool.false_eq_true, if_false]
  cases r <;> rfl
theorem star_fit : PartFit ⟨2, ⟨#[]⟩⟩ := .inr (.inr ⟨rfl, rfl⟩)
theorem prefix_two {l : List UInt8} (h : Lib.hasPrefix l [42, 46] = true) : ∃ r, l = 42 :: 46 :: r := by
  unfold Lib.hasPrefix at h
  rw [List.isPrefixOf_iff_prefix] at h
  obtain ⟨r, hr⟩ := h
  exact ⟨r, hr.symm⟩
theorem partOk_fit {w : ByteArray} (h : partOkB w = true) : PartFit (partOfP w) := by
  unfold partOkB at h
  rw [Bool.or_eq_true, Bool.or_eq_true, Lib.toList_data, beq_iff_eq] at h
  rcases h with (h | h) | h
  · rw [partOf_star [] h]; exact star_fit
  · rw [partOf_word h]; exact .inl ⟨rfl, h⟩
  · simp only [Bool.and_eq_true, decide_eq_true_eq] at h
    obtain ⟨⟨h1, h2⟩, h3⟩ := h
    obtain ⟨r, hr⟩ := prefix_two h2
    rw [partOf_star (46 :: r) hr]
    have e : (w.extract 2 w.size).data.toList = r := by rw [extract_data, hr]; rfl
    have hz : w.size = r.length + 2 := by rw [size_data, hr]; rfl
    refine .inr (.inl ⟨rfl, w.extract 2 w.size, h3, ?_, ?_⟩)
    · rw [size_data, e]; omega
    · show (46 :: r) = 46 :: _
      rw [e]
theorem words_len (ps : List Part) : (wordsL ps).length = ps.length := by simp [wordsL]
def coverL : List Part → List Part → Bool
  | [], _ => true
  | _ :: _, [] => false
  | a :: xs, b :: ys => coversP a.kind a.text b.kind b.text && coverL xs ys
def coverB (x y : Pat) : Bool :=
  coversP x.cust.kind x.cust.text y.cust.kind y.cust.text && !decide (y.parts.length < x.parts.length) && !(decide (x.parts.length < y.parts.length) && !x.tail) && !(y.tail && !x.tail) && coverL x.parts y.parts
end Go.Proofs.YtjhlpkhfdghngaaGreatDoor
namespace Go.Proofs.YtjhlpkhfdghngaaGreatDoor
open Go.RowKit Go.Sort
set_option linter.unusedVariables false
set_option linter.unusedSimpArgs false
set_option maxRecDepth 100000
theorem str_data (k : Nat) (t : ByteArray) : (stringP k t).data.toList = if k = 0 then t.data.toList else 42 :: t.data.toList := by
  unfold stringP
  split
  · rfl
  · simp
theorem compL_cons (l0 : ByteArray) (r : List ByteArray) : compL (l0 :: r) = if (decide (r.length ≤ 32) && headOkB l0) = true then (cmpL r []).map fun x => ⟨partOfP l0, x.1, x.2⟩ else none := rfl
theorem str_head {w : ByteArray} (h : headOkB w = true) : stringP (partOfP w).kind (partOfP w).text = w := by
  unfold headOkB at h
  rw [Bool.or_eq_true, Lib.toList_data, beq_iff_eq] at h
  rcases h with h | h
  · rw [partOf_star [] h]
    exact bytes_ext (by rw [str_data, if_neg (by decide), h]; rfl)
  · rw [partOf_word (name_word h)]; rfl
theorem str_part {w : ByteArray} (h : partOkB w = true) : stringP (partOfP w).kind (partOfP w).text = w := by
  have hf := partOk_fit h
  unfold partOkB at h
  rw [Bool.or_eq_true, Bool.or_eq_true, Lib.toList_data, beq_iff_eq] at h
  rcases h with (h | h) | h
  · rw [partOf_star [] h]
    exact bytes_ext (by rw [str_data, if_neg (by decide), h]; rfl)
  · rw [partOf_word h]; rfl
  · simp only [Bool.and_eq_true, decide_eq_true_eq] at h
    obtain ⟨⟨h1, h2⟩, h3⟩ := h
    obtain ⟨r, hr⟩ := prefix_two h2
    rw [partOf_star (46 :: r) hr]
    exact bytes_ext (by simp [str_data, hr])
def exText (z : Pat) : ByteArray := joinS (withP z.cust.kind z.cust.text ⟨#[97]⟩ :: wordsL z.parts)
def badL : List Part → List Part → Option (List ByteArray)
  | [], _ => none
  | _ :: _, [] => none
  | a :: xs, b :: ys => if coversP a.kind a.text b.kind b.text then (badL xs ys).map (withP b.kind b.text ⟨#[97]⟩ :: ·) else some (withoutP b.kind b.text a.kind a.text :: wordsL ys)
def coverW (x y : Pat) : ByteArray :=
  if !coversP x.cust.kind x.cust.text y.cust.kind y.cust.text then joinS (withoutP y.cust.kind y.cust.text x.cust.kind x.cust.text :: wordsL y.parts)
  else if decide (y.parts.length < x.parts.length) || (decide (x.parts.length < y.parts.length) && !x.tail) then exText y
  else if y.tail && !x.tail then joinS (withP y.cust.kind y.cust.text ⟨#[97]⟩ :: (wordsL y.parts ++ [⟨#[97]⟩]))
  else match badL x.parts y.parts with
    | some ws => joinS (withP y.cust.kind y.cust.text ⟨#[97]⟩ :: ws)
    | none => ⟨#[]⟩
end Go.Proofs.YtjhlpkhfdghngaaGreatDoor
namespace Go.Proofs.YtjhlpkhfdghngaaGreatDoor
open Go.RowKit Go.Sort
set_option linter.unusedVariables false
set_option linter.unusedSimpArgs false
set_option maxRecDepth 100000
def patOk (p : ByteArray) : Bool := decide (p.size = 0) || (compileB p).isSome
def pmeet (p q : ByteArray) : Option ByteArray := if p.size = 0 then some q else if q.size = 0 then some p else match compileB p, compileB q with
  | some x, some y => (commonP x y).map patS
  | _, _ => none
end Go.Proofs.YtjhlpkhfdghngaaGreatDoor
namespace Go.Proofs.YtjhlpkhfdghngaaGreatDoor
open Go.RowKit Go.Sort
set_option linter.unusedVariables false
set_option linter.unusedSimpArgs false
set_option maxRecDepth 100000
section
variable {α : Type}
theorem okK_at {lt : α → α → Bool} {right : α → Bool} {l : List α} (h : (List.range l.length).all (okK lt right l) = true) (k : Nat) (hk : k < l.length) : right l[k] = true ∧ ∀ j, (hj : j + 1 = k) → lt (l[j]'(by omega)) l[k] = true := by
  have := (List.all_eq_true.1 h) k (by simpa using hk)
  unfold okK at this
  rw [List.getElem?_eq_getElem hk] at this
  simp only [Bool.and_eq_true] at this
  refine ⟨this.1, fun j hj => ?_⟩
  subst hj
  have h2 := this.2
  rw [Nat.add_sub_cancel, List.getElem?_eq_getElem (show j < l.length by omega)] at h2
  simpa using h2
theorem setB_iff {lt : α → α → Bool} (tr : ∀ a b c, lt a b = true → lt b c = true → lt a c = true) (right : α → Bool) (most : Nat) (l : List α) : setB lt right most l = true ↔ (∀ x ∈ l, right x = true) ∧ l.Pairwise (fun a b => lt a b = true) ∧ l.length ≤ most := by
  unfold setB
  rw [Bool.and_eq_true, decide_eq_true_eq]
  constructor
  · rintro ⟨h, hm⟩
    refine ⟨fun x hx => ?_, List.pairwise_iff_getElem.2 fun i j hi hj hij => ?_, hm⟩
    · obtain ⟨k, hk, rfl⟩ := List.getElem_of_mem hx
      exact (okK_at h k hk).1
    · have key : ∀ d i, (hd : i + d + 1 < l.length) → lt (l[i]'(by omega)) (l[i + d + 1]'hd) = true := by
        intro d
        induction d with
        | zero => intro i hd; exact (okK_at h (i + 1) hd).2 i rfl
        | succ d ih => intro i hd; exact tr _ _ _ (ih i (by omega)) ((okK_at h (i + (d + 1) + 1) hd).2 (i + d + 1) (by omega))
      have := key (j - i - 1) i (by omega)
      simpa [show i + (j - i - 1) + 1 = j by omega] using this
  · rintro ⟨h1, h2, h3⟩
    refine ⟨List.all_eq_true.2 fun k hk => ?_, h3⟩
    have hk : k < l.length := by simpa using hk
    unfold okK
    rw [List.getElem?_eq_getElem hk]
    simp only [Bool.and_eq_true, h1 _ (List.getElem_mem hk), true_and]
    cases k with
    | zero => rfl
    | succ k =>
      rw [Nat.add_sub_cancel, List.getElem?_eq_getElem (show k < l.length by omega)]
      simp [List.pairwise_iff_getElem.1 h2 k (k + 1) (by omega) hk (by omega)]
variable [DecidableEq α]
def allowsL (l : List α) (x : α) : Bool := l.isEmpty || l.contains x
def bothF (a b : List α) : List α := (if a.isEmpty then b else a).filter (allowsL b)
def bothOk (a b : List α) : Bool := !(bothF a b).isEmpty || (if a.isEmpty then b else a).isEmpty
def bothO (a b : List α) : Option (List α) := if bothOk a b then some (bothF a b) else none
end
end Go.Proofs.YtjhlpkhfdghngaaGreatDoor
namespace Go.Proofs.YtjhlpkhfdghngaaGreatDoor
open Go.RowKit Go.Sort
set_option linter.unusedVariables false
set_option linter.unusedSimpArgs false
set_option maxRecDepth 100000
def timesB (c : CondV) : Bool := decide (0 ≤ c.fr ∧ c.fr ≤ 1099511627776 ∧ 0 ≤ c.till ∧ c.till ≤ 1099511627777 ∧ 0 ≤ c.us ∧ c.us ≤ 1073741824)
def validC (c : CondV) : Bool := timesB c && patOk c.pat && setB ltB isNameB 32 c.cl && setB ltB countryB 32 c.co && setB ltI siteB 64 c.si
theorem ltB_tr (a b c : ByteArray) (h1 : ltB a b = true) (h2 : ltB b c = true) : ltB a c = true := by
  unfold ltB at *
  rw [decide_eq_true_eq] at *
  exact List.lt_trans h1 h2
theorem ltI_tr (a b c : Int) (h1 : ltI a b = true) (h2 : ltI b c = true) : ltI a c = true := by
  unfold ltI at *
  rw [decide_eq_true_eq] at *
  omega
structure CondOk (c : CondV) : Prop where
  fr0 : 0 ≤ c.fr
  fr1 : c.fr ≤ 1099511627776
  to0 : 0 ≤ c.till
  to1 : c.till ≤ 1099511627777
  us0 : 0 ≤ c.us
  us1 : c.us ≤ 1073741824
  pat : patOk c.pat = true
  cl : ∀ x ∈ c.cl, isNameB x = true
  clUp : c.cl.Pairwise fun a b => ltB a b = true
  clLen : c.cl.length ≤ 32
  co : ∀ x ∈ c.co, countryB x = true
  coUp : c.co.Pairwise fun a b => ltB a b = true
  coLen : c.co.length ≤ 32
  si : ∀ x ∈ c.si, siteB x = true
  siUp : c.si.Pairwise fun a b => ltI a b = true
  siLen : c.si.length ≤ 64
theorem valid_iff (c : CondV) : validC c = true ↔ CondOk c := by
  unfold validC timesB
  rw [Bool.and_eq_true, Bool.and_eq_true, Bool.and_eq_true, Bool.and_eq_true, decide_eq_true_eq, setB_iff ltB_tr, setB_iff ltB_tr, setB_iff ltI_tr]
  constructor
  · rintro ⟨⟨⟨⟨⟨a1, a2, a3, a4, a5, a6⟩, b⟩, c1, c2, c3⟩, d1, d2, d3⟩, e1, e2, e3⟩
    exact ⟨a1, a2, a3, a4, a5, a6, b, c1, c2, c3, d1, d2, d3, e1, e2, e3⟩
  · rintro ⟨a1, a2, a3, a4, a5, a6, b, c1, c2, c3, d1, d2, d3, e1, e2, e3⟩
    exact ⟨⟨⟨⟨⟨a1, a2, a3, a4, a5, a6⟩, b⟩, c1, c2, c3⟩, d1, d2, d3⟩, e1, e2, e3⟩
def usesM (a b : Int) : Int := if 0 < a ∧ 0 < b then min a b else max a b
def meetO (a b : CondV) : Option CondV := (pmeet a.pat b.pat).bind fun p => (bothO a.cl b.cl).bind fun cl => (bothO a.co b.co).bind fun co => (bothO a.si b.si).bind fun si =>
  if max a.fr b.fr < min a.till b.till then some ⟨max a.fr b.fr, min a.till b.till, p, cl, co, si, usesM a.us b.us⟩ else none
def meetC (a b : CondV) : CondV := (meetO a b).getD zeroC
end Go.Proofs.YtjhlpkhfdghngaaGreatDoor
namespace Go.Proofs.YtjhlpkhfdghngaaGreatDoor
open Go.RowKit Go.Sort
set_option linter.unusedVariables false
set_option linter.unusedSimpArgs false
set_option maxRecDepth 100000
set_option maxHeartbeats 4000000 in
theorem cmpOr_any (g c : Nat) (a b : ByteArray) (w : World) (h0 : w.cell? ⟨g, 0, none⟩ = some (.string a)) (h1 : w.cell? ⟨g, 1, none⟩ = some (.string b)) : Calls Tryz.prog 118 #[.slice (some ⟨g, 0, none⟩) 2 c] w (Ret w (.string (if a.size = 0 then b else a))) := by
  have hE : ∀ s : ByteArray, s.size = 0 → s = ⟨#[]⟩ := fun s h => bytes_ext (List.eq_nil_of_length_eq_zero (by rw [← Lib.size_eq]; exact h))
  have hN : ∀ s : ByteArray, s.size ≠ 0 → ¬ s.toList = [] := fun s h e => h (by rw [Lib.toList_data] at e; rw [Lib.size_eq, e]; rfl)
  obtain ⟨V, hV⟩ : ∃ V, V = if a.size = 0 then b else a := ⟨_, rfl⟩
  rw [← hV]
  have HV := Lib.hid hV
  have H0 := Lib.hid h0
  have H1 := Lib.hid h1
  clear h0 h1 hV
  go_enter Tryz.func118, Tryz.ntmps118
  go_wp2
  go_loopw [8] (fun vi wr => ∃ k : Nat, vi = .int .i64 k ∧ k ≤ 2 ∧ Hid ((0 < k → a.size = 0) ∧ (1 < k → b.size = 0)) ∧ Below w.heap.size w wr) (fun i _ => 2 - (intOf i).toNat)
  case atStart => exact ⟨0, rfl, by omega, Lib.hid ⟨fun h => by omega, fun h => by omega⟩, Below.refl _ _⟩
  case round =>
    obtain ⟨k, rfl, hk, HK, hbr⟩ := hrel
    have c0 := cell_keep hbr H0.out
    have c1 := cell_keep hbr H1.out
    by_cases hlt : k < 2
    · rcases k with _ | _ | k
      · by_cases hs : a.size = 0
        · have ha := hE a hs
          have HK2 : Hid ((0 < 1 → a.size = 0) ∧ (1 < 1 → b.size = 0)) := Lib.hid ⟨fun _ => hs, fun h => by omega⟩
          rw [ha] at c0
          clear HK ha
          go_wp2
          exact ⟨⟨1, by go_num, by omega, HK2, hbr⟩, by simp [intOf]; try omega⟩
        · have hn := hN a hs
          have hn2 : (a.toList == []) = false := by simpa using hn
          obtain rfl : V = a := by rw [HV.out, if_neg hs]
          clear HK
          go_wp2
          go_ret
          exact ⟨rfl, hbr⟩
      · have hs := HK.out.1 (by omega)
        obtain rfl : V = b := by rw [HV.out, if_pos hs]
        by_cases hs2 : V.size = 0
        · have hb := hE V hs2
          have HK2 : Hid ((0 < 2 → a.size = 0) ∧ (1 < 2 → V.size = 0)) := Lib.hid ⟨fun _ => hs, fun _ => hs2⟩
          rw [hb] at c1
          clear HK hb
          go_wp2
          exact ⟨⟨2, by go_num, by omega, HK2, hbr⟩, by simp [intOf]; try omega⟩
        · have hn := hN V hs2
          have hn2 : (V.toList == []) = false := by simpa using hn
          clear HK
          go_wp2
          go_ret
          exact ⟨rfl, hbr⟩
      · omega
    · obtain rfl : k = 2 := by omega
      have hs := HK.out.1 (by omega)
      have hs2 := HK.out.2 (by omega)
      obtain rfl : V = ⟨#[]⟩ := by rw [HV.out, if_pos hs, hE b hs2]
      go_wp2
      go_ret
      exact ⟨rfl, hbr⟩
end Go.Proofs.YtjhlpkhfdghngaaGreatDoor
namespace Go.Proofs.YtjhlpkhfdghngaaGreatDoor
open Go.RowKit Go.Sort
set_option linter.unusedVariables false
set_option linter.unusedSimpArgs false
set_option maxRecDepth 100000
theorem two_cells (W : World) (t : Nat) (a b : Value) (g : Nat) (hg : g = W.heap.size) : (W.alloc (.cells #[a, b] t)).cell? ⟨g, 0, none⟩ = some a ∧ (W.alloc (.cells #[a, b] t)).cell? ⟨g, 1, none⟩ = some b := by
  subst hg
  have h : Blk (W.alloc (.cells #[a, b] t)) W.heap.size t #[a, b] (0, 0) := World.alloc_heap_new _ _
  exact ⟨Blk.cell h 0, Blk.cell h 1⟩
set_option maxHeartbeats 1000000 in
theorem condPattern_any (fr till us : Int) (pat : ByteArray) (A B S : Option Addr) (na ca nb cb ns cs : Nat) (w : World) :
    Calls Tryz.prog 167 #[.agg #[.int .i64 fr, .int .i64 till, .string pat, .slice A na ca, .slice B nb cb, .slice S ns cs, .int .i64 us]] w (Ret w (.string (if pat.size = 0 then ⟨#[42, 47, 42, 42]⟩ else pat))) := by
  have cO := cmpOr_any
  generalize hV : (if pat.size = 0 then (⟨#[42, 47, 42, 42]⟩ : ByteArray) else pat) = V
  have HC := Lib.hid (fun (g c : Nat) (W : World) h0 h1 => hV ▸ cO g c pat ⟨#[42, 47, 42, 42]⟩ W h0 h1)
  clear cO hV
  go_enter Tryz.func167, Tryz.ntmps167
  go_wp2_with (go_at_call 118; refine (HC.out _ _ _ (two_cells _ _ _ _ _ (by simp)).1 (two_cells _ _ _ _ _ (by simp)).2).mono ?_; rintro e w2 ⟨rfl, hb2⟩)
  go_ret
  exact ⟨rfl, belB⟩
theorem allowsS_any (A : Option Addr) (n c : Nat) (xs : List ByteArray) (x : ByteArray) (w : World) (hA : Reads w 1 A n (xs.map .string)) (hn : n ≤ 1000000000) : Calls Tryz.prog 168 #[.slice A n c, .string x] w (Ret w (.bool (allowsL xs x))) := by
  have hl : xs.length = n := by have := hA.1; simp at this; omega
  rcases Nat.eq_zero_or_pos n with h0 | h0
  · subst h0
    obtain rfl : xs = [] := List.eq_nil_of_length_eq_zero hl
    go_enter Tryz.func168, Tryz.ntmps168
    go_wp2
    go_ret
    exact ⟨rfl, Below.refl _ _⟩
  · have he : xs.isEmpty = false := by cases xs; simp at hl; omega; rfl
    obtain ⟨b, o, rfl, hc⟩ := hA.2 h0
    have cC := fun (W : World) (hb : Below w.heap.size w W) => Tryz.slices_Contains_string b o n c xs x W (by omega) (by omega) (fun j hj => by
        refine cell_keep hb (hc j _ ?_)
        rw [List.getElem?_map, List.getElem?_eq_getElem hj]
        simp [List.getD_eq_getElem?_getD, List.getElem?_eq_getElem hj])
    rw [List.take_of_length_le (by omega)] at cC
    have hcs : Lib.containsS xs x = allowsL xs x := by
      unfold allowsL
      rw [he, Bool.false_or, Bool.eq_iff_iff, Lib.containsS_iff]
      simp
    rw [hcs] at cC
    have HC := Lib.hid cC
    have hn0 : ((n : Int) == 0) = false := by simp; omega
    clear cC hc hA hcs he
    generalize allowsL xs x = res at *
    go_enter Tryz.func168, Tryz.ntmps168
    go_wp2_with (go_at_call 148; refine (HC.out _ belB).mono ?_; rintro e w2 ⟨rfl, rfl⟩)
    go_ret
    exact ⟨rfl, belB⟩
theorem allowsI_any (A : Option Addr) (n c : Nat) (xs : List Int) (x : Int) (w : World) (hA : Reads w 1 A n (xs.map (.int .i64))) (hn : n ≤ 1000000000) : Calls Tryz.prog 169 #[.slice A n c, .int .i64 x] w (Ret w (.bool (allowsL xs x))) := by
  have hl : xs.length = n := by have := hA.1; simp at this; omega
  rcases Nat.eq_zero_or_pos n with h0 | h0
  · subst h0
    obtain rfl : xs = [] := List.eq_nil_of_length_eq_zero hl
    go_enter Tryz.func169, Tryz.ntmps169
    go_wp2
    go_ret
    exact ⟨rfl, Below.refl _ _⟩
  · have he : xs.isEmpty = false := by cases xs; simp at hl; omega; rfl
    obtain ⟨b, o, rfl, hc⟩ := hA.2 h0
    have cC := fun (W : World) (hb : Below w.heap.size w W) => Tryz.slices_Contains_int b o n c xs x W (by omega) (by omega) (fun j hj => by
        refine cell_keep hb (hc j _ ?_)
        rw [List.getElem?_map, List.getElem?_eq_getElem hj]
        simp [List.getD_eq_getElem?_getD, List.getElem?_eq_getElem hj])
    rw [List.take_of_length_le (by omega)] at cC
    have hcs : xs.contains x = allowsL xs x := by
      unfold allowsL
      rw [he, Bool.false_or]
    rw [hcs] at cC
    have HC := Lib.hid cC
    have hn0 : ((n : Int) == 0) = false := by simp; omega
    clear cC hc hA he hcs
    generalize allowsL xs x = res at *
    go_enter Tryz.func169, Tryz.ntmps169
    go_wp2_with (go_at_call 230; refine (HC.out _ belB).mono ?_; rintro e w2 ⟨rfl, rfl⟩)
    go_ret
    exact ⟨rfl, belB⟩
end Go.Proofs.YtjhlpkhfdghngaaGreatDoor
namespace Go.Proofs.YtjhlpkhfdghngaaGreatDoor
open Go.RowKit Go.Sort
set_option linter.unusedVariables false
set_option linter.unusedSimpArgs false
set_option maxRecDepth 100000
theorem single_comp (s : ByteArray) (h : 47 ∉ s.data.toList) : (compileB s).isSome = headOkB s := by
  unfold compileB
  have e : splitB 47 s = [s] := splitB_miss 47 s (by rw [indexByte_miss _ _ h]; omega)
  rw [e, compL_cons]
  cases headOkB s
  · rfl
  · rfl
theorem name_eq (s : ByteArray) : isNameB s = (!(s.toList == [42]) && !decide (0 ≤ Lib.indexByte s.data.toList 47) && (compileB s).isSome) := by
  by_cases h : 47 ∈ s.data.toList
  · have h1 : isNameB s = false := by
      cases hn : isNameB s
      · rfl
      · exact absurd h (word_no (name_word hn)).1
    have h2 : decide (0 ≤ Lib.indexByte s.data.toList 47) = true := by
      rw [decide_eq_true_eq]
      rcases Int.lt_or_le (Lib.indexByte s.data.toList 47) 0 with hlt | hle
      · exact absurd h (indexByte_mem _ _ hlt)
      · exact hle
    rw [h1, h2]; simp
  · rw [indexByte_miss _ _ h, single_comp s h]
    unfold headOkB
    cases hs : (s.toList == [42])
    · simp
    · have : isNameB s = false := by
        cases hn : isNameB s
        · rfl
        · have := (word_no (name_word hn)).2.2.2.2.1
          rw [beq_iff_eq, Lib.toList_data] at hs
          rw [hs] at this
          exact absurd (by simp) this
      rw [this]; rfl
set_option maxHeartbeats 1000000 in
theorem condName_any (s : ByteArray) (w : World) (hs : s.size ≤ 100000) (hE : Env w) : Calls Tryz.prog 108 #[.string s] w (Ret w (.bool (isNameB s))) := by
  have HVA := Lib.hid (fun W h => valid_any s W hs h)
  have HE := Lib.hid hE
  rw [name_eq]
  clear hE
  generalize (compileB s).isSome = b at *
  generalize hc : decide (0 ≤ Lib.indexByte s.data.toList 47) = cc
  have cC := fun W => Tryz.strings_Contains_one s 47 W
  rw [hc] at cC
  have HC := Lib.hid cC
  clear cC hc
  cases h1 : (s.toList == [42])
  · have h1' : ¬ s.toList = [42] := by simpa using h1
    cases cc
    · go_enter Tryz.func108, Tryz.ntmps108
      go_wp2_with (first | (go_at_call 149; refine (HC.out _).mono ?_; rintro e w1 ⟨rfl, rfl⟩) | (go_at_call 49; refine (HVA.out _ (Env.keep HE.out belB)).mono ?_; rintro e w2 ⟨rfl, hb2⟩))
      go_ret
      exact ⟨ret_bool (by simp), belB⟩
    · go_enter Tryz.func108, Tryz.ntmps108
      go_wp2_with (first | (go_at_call 149; refine (HC.out _).mono ?_; rintro e w1 ⟨rfl, rfl⟩) | (go_at_call 49; refine (HVA.out _ (Env.keep HE.out belB)).mono ?_; rintro e w2 ⟨rfl, hb2⟩))
      go_ret
      exact ⟨rfl, belB⟩
  · have h1' : s.toList = [42] := by simpa using h1
    go_enter Tryz.func108, Tryz.ntmps108
    go_wp2
    all_goals (go_ret; exact ⟨rfl, belB⟩)
theorem le_prevI (x y : Int) : decide (x ≤ y) = !ltI y x := by
  unfold ltI
  rw [Bool.eq_iff_iff]; simp
set_option maxHeartbeats 2000000 in
theorem isSetI_any (g : Nat) (eg : ∀ args w, (callFunc g args).run Tryz.prog w = .ok (.enter g args) w) (right : Int → Bool) (A : Option Addr) (n c : Nat) (xs : List Int) (most : Nat) (w : World)
    (hp : ∀ x, ∀ W, Calls Tryz.prog g #[.int .i64 x] W (Ret W (.bool (right x)))) (hA : Reads w 1 A n (xs.map (.int .i64))) (hn : n ≤ 1000000000) (hm : most ≤ 1000000) :
    Calls Tryz.prog 110 #[.slice A n c, .int .i64 most, .func (.func g) #[] #[]] w (Ret w (.bool (setB ltI right most xs))) := by
  have hl : xs.length = n := by have := hA.1; simp at this; omega
  have HP := Lib.hid hp; have HA := Lib.hid hA; have HL := Lib.hid hl
  obtain ⟨V, hV⟩ : ∃ V, V = setB ltI right most xs := ⟨_, rfl⟩
  rw [← hV]
  have HV := Lib.hid hV
  clear hp hA hl hV
  go_enter Tryz.func110, Tryz.ntmps110
  go_wp2
  go_loopw [11] (fun i wr => ∃ k : Nat, k ≤ n ∧ i = .int .i64 k ∧ Hid ((List.range k).all (okK ltI right xs) = true) ∧ Below w.heap.size w wr) (fun i _ => n - (intOf i).toNat)
  case atStart => exact ⟨0, by omega, rfl, Lib.hid rfl, Below.refl _ _⟩
  case round =>
    obtain ⟨k, hk, rfl, HK, hb⟩ := hrel
    by_cases hlt : k < n
    · obtain ⟨x, hx⟩ : ∃ x, xs[k]? = some x := ⟨_, List.getElem?_eq_getElem (by have := HL.out; omega)⟩
      obtain ⟨pb, po, rfl, hcell⟩ := (HA.out.keep hb).2 (by omega)
      have hc1 : wr.cell? ⟨pb, po + k, none⟩ = some (.int .i64 x) := hcell k _ (by simp [hx])
      have hc := fun W => HP.out x W
      have hok : okK ltI right xs k = (right x && (k == 0 || (match xs[k - 1]? with
        | none => true
        | some y => ltI y x))) := by unfold okK; rw [hx]; cases xs[k - 1]? <;> rfl
      have hfail : okK ltI right xs k = false → V = false := fun h => by rw [HV.out]; exact okK_fail (by have := HL.out; omega) h
      cases hr : right x
      · have hVf : V = false := hfail (by rw [hok, hr]; rfl)
        rw [hr] at hc
        have HC := Lib.hid hc
        clear hc hr hok hfail hcell hx
        subst hVf
        go_wp2_with (go_at_fn g; refine (HC.out _).mono ?_; rintro e w2 ⟨rfl, hb2⟩)
        go_ret
        exact ⟨rfl, belB⟩
      · rw [hr] at hc
        have HC := Lib.hid hc
        rcases k with _ | j
        · have HK2 : Hid ((List.range (0 + 1)).all (okK ltI right xs) = true) := Lib.hid (okK_upto HK.out (by rw [hok, hr]; rfl))
          simp only [Nat.add_zero] at hc1
          clear hc hr hok hfail hcell hx
          go_wp2_with (go_at_fn g; refine (HC.out _).mono ?_; rintro e w2 ⟨rfl, hb2⟩)
          exact ⟨⟨1, by omega, by go_num, HK2, belB⟩, by simp [intOf]; omega⟩
        · obtain ⟨y, hy⟩ : ∃ y, xs[j]? = some y := ⟨_, List.getElem?_eq_getElem (by have := HL.out; omega)⟩
          have hc2 : wr.cell? ⟨pb, po + j, none⟩ = some (.int .i64 y) := hcell j _ (by simp [hy])
          have hle := le_prevI x y
          rw [Nat.add_sub_cancel, hy] at hok
          have hok : okK ltI right xs (j + 1) = ltI y x := by rw [hok, hr]; simp
          have hj0 : (0 : Int) ≤ (j : Int) := by omega
          have hj1 : (j : Int) < (n : Int) := by omega
          cases ht : ltI y x
          · have hVf : V = false := hfail (by rw [hok, ht])
            rw [ht] at hle
            clear hc hr hok hfail hcell hx hy
            subst hVf
            go_wp2_with (go_at_fn g; refine (HC.out _).mono ?_; rintro e w2 ⟨rfl, hb2⟩; have hc3 := cell_keep hb2 hc2)
            go_ret
            exact ⟨rfl, belB⟩
          · have HK2 : Hid ((List.range (j + 1 + 1)).all (okK ltI right xs) = true) := Lib.hid (okK_upto HK.out (by rw [hok, ht]))
            rw [ht] at hle
            clear hc hr hok hfail hcell hx hy
            go_wp2_with (go_at_fn g; refine (HC.out _).mono ?_; rintro e w2 ⟨rfl, hb2⟩; have hc3 := cell_keep hb2 hc2)
            exact ⟨⟨j + 1 + 1, by omega, by go_num, HK2, belB⟩, by simp [intOf]; omega⟩
    · obtain rfl : k = n := by omega
      have hv : V = decide (k ≤ most) := by rw [HV.out]; unfold setB; rw [HL.out, HK.out]; rfl
      by_cases hm2 : k ≤ most
      · rw [decide_eq_true hm2] at hv
        have d1 : decide ((k : Int) ≤ most) = true := decide_eq_true (by omega)
        subst hv
        go_wp2
        go_ret
        exact ⟨rfl, hb⟩
      · rw [decide_eq_false hm2] at hv
        have d1 : decide ((k : Int) ≤ most) = false := decide_eq_false (by omega)
        subst hv
        go_wp2
        go_ret
        exact ⟨rfl, hb⟩
end Go.Proofs.YtjhlpkhfdghngaaGreatDoor
namespace Go.Proofs.YtjhlpkhfdghngaaGreatDoor
open Go.RowKit Go.Sort
set_option linter.unusedVariables false
set_option linter.unusedSimpArgs false
set_option maxRecDepth 100000
set_option maxHeartbeats 8000000 in
theorem condValid_any (c : CondV) (m : CondMem) (w : World) (hR : CondReads w c m) (hp : c.pat.size ≤ 100000) (hcl : ∀ x ∈ c.cl, x.size ≤ 100000) (hco : ∀ x ∈ c.co, x.size ≤ 100000) (h1 : c.cl.length ≤ 1000000) (h2 : c.co.length ≤ 1000000) (h3 : c.si.length ≤ 1000000) (hE : Env w) :
    Calls Tryz.prog 52 #[CondMem.val c m] w (Ret w (.bool (validC c))) := by
  obtain ⟨fr, till, pat, cl, co, si, us⟩ := c
  obtain ⟨A, ca, B, cb, S, cs⟩ := m
  obtain ⟨hA, hB, hS⟩ := hR
  dsimp only at hA hB hS hp hcl hco h1 h2 h3
  unfold CondMem.val
  dsimp only
  obtain ⟨V, hV⟩ : ∃ V, V = validC ⟨fr, till, pat, cl, co, si, us⟩ := ⟨_, rfl⟩
  rw [← hV]
  unfold validC timesB patOk at hV
  dsimp only at hV
  have c1 := fun W (hb : Below w.heap.size w W) => isSetS_any 108 (enters_of Tryz.func108 (by kernel_rfl) rfl) isNameB A cl.length ca cl 32 W (fun x hx W' hE' => condName_any x W' (hcl x hx) hE') (hA.keep hb) (by omega) (by omega) (Env.keep hE hb)
  have c2 := fun W (hb : Below w.heap.size w W) => isSetS_any 109 (enters_of Tryz.func109 (by kernel_rfl) rfl) countryB B co.length cb co 32 W (fun x hx W' _ => isCountry_any x W' (by have := hco x hx; omega)) (hB.keep hb) (by omega) (by omega) (Env.keep hE hb)
  have c3 := fun W (hb : Below w.heap.size w W) => isSetI_any 111 (enters_of Tryz.func111 (by kernel_rfl) rfl) siteB S si.length cs si 64 W (fun x W' => isSite_any x W') (hS.keep hb) (by omega) (by omega)
  have hva := fun W h => valid_any pat W hp h
  generalize (compileB pat).isSome = b1 at *
  generalize setB ltB isNameB 32 cl = b2 at *
  generalize setB ltB countryB 32 co = b3 at *
  generalize setB ltI siteB 64 si = b4 at *
  have h32 : ((32 : Nat) : Int) = 32 := rfl
  have h64 : ((64 : Nat) : Int) = 64 := rfl
  simp only [h32] at c1 c2
  simp only [h64] at c3
  clear h32 h64
  have C1 := Lib.hid c1
  have C2 := Lib.hid c2
  have C3 := Lib.hid c3
  have HVA := Lib.hid hva
  have HE := Lib.hid hE
  clear c1 c2 c3 hva hE hA hB hS hcl hco h1 h2 h3 hp
  by_cases t1 : 0 ≤ fr
  rotate_left
  · obtain rfl : V = false := by rw [hV]; simp [t1]
    have d1 : decide (0 ≤ fr) = false := decide_eq_false t1
    clear hV
    (go_enter Tryz.func52, Tryz.ntmps52; go_wp2_with (first | (go_at_call 49; refine (HVA.out _ (Env.keep HE.out belB)).mono ?_; rintro e w2 ⟨rfl, hb2⟩; (have hX2 : CBox w2 w.heap.size fr till pat A cl.length ca B co.length cb S si.length cs us := (by first | exact Blk.keep hX2 hb2 | exact Blk.keep (World.alloc_heap_new _ _) hb2); obtain ⟨x0, x1, x2, x3, x4, x5, x6⟩ := hX2.facts)) | (go_at_call 107; (first | (refine (C1.out _ belB).mono ?_; clear C1) | refine (C2.out _ belB).mono ?_); rintro e w2 ⟨rfl, hb2⟩; (have hX2 : CBox w2 w.heap.size fr till pat A cl.length ca B co.length cb S si.length cs us := (by first | exact Blk.keep hX2 hb2 | exact Blk.keep (World.alloc_heap_new _ _) hb2); obtain ⟨x0, x1, x2, x3, x4, x5, x6⟩ := hX2.facts)) | (go_at_call 110; refine (C3.out _ belB).mono ?_; rintro e w2 ⟨rfl, hb2⟩)); go_ret; exact ⟨rfl, belB⟩)
  have d1 : decide (0 ≤ fr) = true := decide_eq_true t1
  by_cases t2 : fr ≤ 1099511627776
  rotate_left
  · obtain rfl : V = false := by rw [hV]; simp [t2]
    have d2 : decide (fr ≤ 1099511627776) = false := decide_eq_false t2
    clear hV
    (go_enter Tryz.func52, Tryz.ntmps52; go_wp2_with (first | (go_at_call 49; refine (HVA.out _ (Env.keep HE.out belB)).mono ?_; rintro e w2 ⟨rfl, hb2⟩; (have hX2 : CBox w2 w.heap.size fr till pat A cl.length ca B co.length cb S si.length cs us := (by first | exact Blk.keep hX2 hb2 | exact Blk.keep (World.alloc_heap_new _ _) hb2); obtain ⟨x0, x1, x2, x3, x4, x5, x6⟩ := hX2.facts)) | (go_at_call 107; (first | (refine (C1.out _ belB).mono ?_; clear C1) | refine (C2.out _ belB).mono ?_); rintro e w2 ⟨rfl, hb2⟩; (have hX2 : CBox w2 w.heap.size fr till pat A cl.length ca B co.length cb S si.length cs us := (by first | exact Blk.keep hX2 hb2 | exact Blk.keep (World.alloc_heap_new _ _) hb2); obtain ⟨x0, x1, x2, x3, x4, x5, x6⟩ := hX2.facts)) | (go_at_call 110; refine (C3.out _ belB).mono ?_; rintro e w2 ⟨rfl, hb2⟩)); go_ret; exact ⟨rfl, belB⟩)
  have d2 : decide (fr ≤ 1099511627776) = true := decide_eq_true t2
  by_cases t3 : 0 ≤ till
  rotate_left
  · obtain rfl : V = false := by rw [hV]; simp [t3]
    have d3 : decide (0 ≤ till) = false := decide_eq_false t3
    clear hV
    (go_enter Tryz.func52, Tryz.ntmps52; go_wp2_with (first | (go_at_call 49; refine (HVA.out _ (Env.keep HE.out belB)).mono ?_; rintro e w2 ⟨rfl, hb2⟩; (have hX2 : CBox w2 w.heap.size fr till pat A cl.length ca B co.length cb S si.length cs us := (by first | exact Blk.keep hX2 hb2 | exact Blk.keep (World.alloc_heap_new _ _) hb2); obtain ⟨x0, x1, x2, x3, x4, x5, x6⟩ := hX2.facts)) | (go_at_call 107; (first | (refine (C1.out _ belB).mono ?_; clear C1) | refine (C2.out _ belB).mono ?_); rintro e w2 ⟨rfl, hb2⟩; (have hX2 : CBox w2 w.heap.size fr till pat A cl.length ca B co.length cb S si.length cs us := (by first | exact Blk.keep hX2 hb2 | exact Blk.keep (World.alloc_heap_new _ _) hb2); obtain ⟨x0, x1, x2, x3, x4, x5, x6⟩ := hX2.facts)) | (go_at_call 110; refine (C3.out _ belB).mono ?_; rintro e w2 ⟨rfl, hb2⟩)); go_ret; exact ⟨rfl, belB⟩)
  have d3 : decide (0 ≤ till) = true := decide_eq_true t3
  by_cases t4 : till ≤ 1099511627777
  rotate_left
  · obtain rfl : V = false := by rw [hV]; simp [t4]
    have d4 : decide (till ≤ 1099511627777) = false := decide_eq_false t4
    clear hV
    (go_enter Tryz.func52, Tryz.ntmps52; go_wp2_with (first | (go_at_call 49; refine (HVA.out _ (Env.keep HE.out belB)).mono ?_; rintro e w2 ⟨rfl, hb2⟩; (have hX2 : CBox w2 w.heap.size fr till pat A cl.length ca B co.length cb S si.length cs us := (by first | exact Blk.keep hX2 hb2 | exact Blk.keep (World.alloc_heap_new _ _) hb2); obtain ⟨x0, x1, x2, x3, x4, x5, x6⟩ := hX2.facts)) | (go_at_call 107; (first | (refine (C1.out _ belB).mono ?_; clear C1) | refine (C2.out _ belB).mono ?_); rintro e w2 ⟨rfl, hb2⟩; (have hX2 : CBox w2 w.heap.size fr till pat A cl.length ca B co.length cb S si.length cs us := (by first | exact Blk.keep hX2 hb2 | exact Blk.keep (World.alloc_heap_new _ _) hb2); obtain ⟨x0, x1, x2, x3, x4, x5, x6⟩ := hX2.facts)) | (go_at_call 110; refine (C3.out _ belB).mono ?_; rintro e w2 ⟨rfl, hb2⟩)); go_ret; exact ⟨rfl, belB⟩)
  have d4 : decide (till ≤ 1099511627777) = true := decide_eq_true t4
  by_cases t5 : 0 ≤ us
  rotate_left
  · obtain rfl : V = false := by rw [hV]; simp [t5]
    have d5 : decide (0 ≤ us) = false := decide_eq_false t5
    clear hV
    (go_enter Tryz.func52, Tryz.ntmps52; go_wp2_with (first | (go_at_call 49; refine (HVA.out _ (Env.keep HE.out belB)).mono ?_; rintro e w2 ⟨rfl, hb2⟩; (have hX2 : CBox w2 w.heap.size fr till pat A cl.length ca B co.length cb S si.length cs us := (by first | exact Blk.keep hX2 hb2 | exact Blk.keep (World.alloc_heap_new _ _) hb2); obtain ⟨x0, x1, x2, x3, x4, x5, x6⟩ := hX2.facts)) | (go_at_call 107; (first | (refine (C1.out _ belB).mono ?_; clear C1) | refine (C2.out _ belB).mono ?_); rintro e w2 ⟨rfl, hb2⟩; (have hX2 : CBox w2 w.heap.size fr till pat A cl.length ca B co.length cb S si.length cs us := (by first | exact Blk.keep hX2 hb2 | exact Blk.keep (World.alloc_heap_new _ _) hb2); obtain ⟨x0, x1, x2, x3, x4, x5, x6⟩ := hX2.facts)) | (go_at_call 110; refine (C3.out _ belB).mono ?_; rintro e w2 ⟨rfl, hb2⟩)); go_ret; exact ⟨rfl, belB⟩)
  have d5 : decide (0 ≤ us) = true := decide_eq_true t5
  by_cases t6 : us ≤ 1073741824
  rotate_left
  · obtain rfl : V = false := by rw [hV]; simp [t6]
    have d6 : decide (us ≤ 1073741824) = false := decide_eq_false t6
    clear hV
    (go_enter Tryz.func52, Tryz.ntmps52; go_wp2_with (first | (go_at_call 49; refine (HVA.out _ (Env.keep HE.out belB)).mono ?_; rintro e w2 ⟨rfl, hb2⟩; (have hX2 : CBox w2 w.heap.size fr till pat A cl.length ca B co.length cb S si.length cs us := (by first | exact Blk.keep hX2 hb2 | exact Blk.keep (World.alloc_heap_new _ _) hb2); obtain ⟨x0, x1, x2, x3, x4, x5, x6⟩ := hX2.facts)) | (go_at_call 107; (first | (refine (C1.out _ belB).mono ?_; clear C1) | refine (C2.out _ belB).mono ?_); rintro e w2 ⟨rfl, hb2⟩; (have hX2 : CBox w2 w.heap.size fr till pat A cl.length ca B co.length cb S si.length cs us := (by first | exact Blk.keep hX2 hb2 | exact Blk.keep (World.alloc_heap_new _ _) hb2); obtain ⟨x0, x1, x2, x3, x4, x5, x6⟩ := hX2.facts)) | (go_at_call 110; refine (C3.out _ belB).mono ?_; rintro e w2 ⟨rfl, hb2⟩)); go_ret; exact ⟨rfl, belB⟩)
  have d6 : decide (us ≤ 1073741824) = true := decide_eq_true t6
  have hV2 : V = ((decide (pat.size = 0) || b1) && b2 && b3 && b4) := by rw [hV]; simp [t1, t2, t3, t4, t5, t6]
  clear hV
  by_cases hs : pat.size = 0
  · obtain rfl : pat = ⟨#[]⟩ := bytes_ext (List.eq_nil_of_length_eq_zero (by rw [← Lib.size_eq]; exact hs))
    clear hs
    cases b2
    · obtain rfl : V = false := by rw [hV2]; simp
      clear hV2
      (go_enter Tryz.func52, Tryz.ntmps52; go_wp2_with (first | (go_at_call 107; (first | (refine (C1.out _ belB).mono ?_; clear C1) | refine (C2.out _ belB).mono ?_); rintro e w2 ⟨rfl, hb2⟩; (have hX2 : CBox w2 w.heap.size fr till ⟨#[]⟩ A cl.length ca B co.length cb S si.length cs us := (by first | exact Blk.keep hX2 hb2 | exact Blk.keep (World.alloc_heap_new _ _) hb2); obtain ⟨x0, x1, x2, x3, x4, x5, x6⟩ := hX2.facts)) | (go_at_call 110; refine (C3.out _ belB).mono ?_; rintro e w2 ⟨rfl, hb2⟩)); go_ret; exact ⟨rfl, belB⟩)
    cases b3
    · obtain rfl : V = false := by rw [hV2]; simp
      clear hV2
      (go_enter Tryz.func52, Tryz.ntmps52; go_wp2_with (first | (go_at_call 107; (first | (refine (C1.out _ belB).mono ?_; clear C1) | refine (C2.out _ belB).mono ?_); rintro e w2 ⟨rfl, hb2⟩; (have hX2 : CBox w2 w.heap.size fr till ⟨#[]⟩ A cl.length ca B co.length cb S si.length cs us := (by first | exact Blk.keep hX2 hb2 | exact Blk.keep (World.alloc_heap_new _ _) hb2); obtain ⟨x0, x1, x2, x3, x4, x5, x6⟩ := hX2.facts)) | (go_at_call 110; refine (C3.out _ belB).mono ?_; rintro e w2 ⟨rfl, hb2⟩)); go_ret; exact ⟨rfl, belB⟩)
    obtain rfl : V = b4 := by rw [hV2]; cases b1 <;> cases b4 <;> rfl
    clear hV2
    (go_enter Tryz.func52, Tryz.ntmps52; go_wp2_with (first | (go_at_call 107; (first | (refine (C1.out _ belB).mono ?_; clear C1) | refine (C2.out _ belB).mono ?_); rintro e w2 ⟨rfl, hb2⟩; (have hX2 : CBox w2 w.heap.size fr till ⟨#[]⟩ A cl.length ca B co.length cb S si.length cs us := (by first | exact Blk.keep hX2 hb2 | exact Blk.keep (World.alloc_heap_new _ _) hb2); obtain ⟨x0, x1, x2, x3, x4, x5, x6⟩ := hX2.facts)) | (go_at_call 110; refine (C3.out _ belB).mono ?_; rintro e w2 ⟨rfl, hb2⟩)); go_ret; exact ⟨rfl, belB⟩)
  · have hn : ¬ pat.toList = [] := fun e => hs (by rw [Lib.toList_data] at e; rw [Lib.size_eq, e]; rfl)
    have hn2 : (pat.toList == []) = false := by simpa using hn
    rw [decide_eq_false hs, Bool.false_or] at hV2
    cases b1
    · obtain rfl : V = false := by rw [hV2]; simp
      clear hV2
      (go_enter Tryz.func52, Tryz.ntmps52; go_wp2_with (first | (go_at_call 49; refine (HVA.out _ (Env.keep HE.out belB)).mono ?_; rintro e w2 ⟨rfl, hb2⟩; (have hX2 : CBox w2 w.heap.size fr till pat A cl.length ca B co.length cb S si.length cs us := (by first | exact Blk.keep hX2 hb2 | exact Blk.keep (World.alloc_heap_new _ _) hb2); obtain ⟨x0, x1, x2, x3, x4, x5, x6⟩ := hX2.facts)) | (go_at_call 107; (first | (refine (C1.out _ belB).mono ?_; clear C1) | refine (C2.out _ belB).mono ?_); rintro e w2 ⟨rfl, hb2⟩; (have hX2 : CBox w2 w.heap.size fr till pat A cl.length ca B co.length cb S si.length cs us := (by first | exact Blk.keep hX2 hb2 | exact Blk.keep (World.alloc_heap_new _ _) hb2); obtain ⟨x0, x1, x2, x3, x4, x5, x6⟩ := hX2.facts)) | (go_at_call 110; refine (C3.out _ belB).mono ?_; rintro e w2 ⟨rfl, hb2⟩)); go_ret; exact ⟨rfl, belB⟩)
    cases b2
    · obtain rfl : V = false := by rw [hV2]; simp
      clear hV2
      (go_enter Tryz.func52, Tryz.ntmps52; go_wp2_with (first | (go_at_call 49; refine (HVA.out _ (Env.keep HE.out belB)).mono ?_; rintro e w2 ⟨rfl, hb2⟩; (have hX2 : CBox w2 w.heap.size fr till pat A cl.length ca B co.length cb S si.length cs us := (by first | exact Blk.keep hX2 hb2 | exact Blk.keep (World.alloc_heap_new _ _) hb2); obtain ⟨x0, x1, x2, x3, x4, x5, x6⟩ := hX2.facts)) | (go_at_call 107; (first | (refine (C1.out _ belB).mono ?_; clear C1) | refine (C2.out _ belB).mono ?_); rintro e w2 ⟨rfl, hb2⟩; (have hX2 : CBox w2 w.heap.size fr till pat A cl.length ca B co.length cb S si.length cs us := (by first | exact Blk.keep hX2 hb2 | exact Blk.keep (World.alloc_heap_new _ _) hb2); obtain ⟨x0, x1, x2, x3, x4, x5, x6⟩ := hX2.facts)) | (go_at_call 110; refine (C3.out _ belB).mono ?_; rintro e w2 ⟨rfl, hb2⟩)); go_ret; exact ⟨rfl, belB⟩)
    cases b3
    · obtain rfl : V = false := by rw [hV2]; simp
      clear hV2
      (go_enter Tryz.func52, Tryz.ntmps52; go_wp2_with (first | (go_at_call 49; refine (HVA.out _ (Env.keep HE.out belB)).mono ?_; rintro e w2 ⟨rfl, hb2⟩; (have hX2 : CBox w2 w.heap.size fr till pat A cl.length ca B co.length cb S si.length cs us := (by first | exact Blk.keep hX2 hb2 | exact Blk.keep (World.alloc_heap_new _ _) hb2); obtain ⟨x0, x1, x2, x3, x4, x5, x6⟩ := hX2.facts)) | (go_at_call 107; (first | (refine (C1.out _ belB).mono ?_; clear C1) | refine (C2.out _ belB).mono ?_); rintro e w2 ⟨rfl, hb2⟩; (have hX2 : CBox w2 w.heap.size fr till pat A cl.length ca B co.length cb S si.length cs us := (by first | exact Blk.keep hX2 hb2 | exact Blk.keep (World.alloc_heap_new _ _) hb2); obtain ⟨x0, x1, x2, x3, x4, x5, x6⟩ := hX2.facts)) | (go_at_call 110; refine (C3.out _ belB).mono ?_; rintro e w2 ⟨rfl, hb2⟩)); go_ret; exact ⟨rfl, belB⟩)
    obtain rfl : V = b4 := by rw [hV2]; cases b4 <;> rfl
    clear hV2
    (go_enter Tryz.func52, Tryz.ntmps52; go_wp2_with (first | (go_at_call 49; refine (HVA.out _ (Env.keep HE.out belB)).mono ?_; rintro e w2 ⟨rfl, hb2⟩; (have hX2 : CBox w2 w.heap.size fr till pat A cl.length ca B co.length cb S si.length cs us := (by first | exact Blk.keep hX2 hb2 | exact Blk.keep (World.alloc_heap_new _ _) hb2); obtain ⟨x0, x1, x2, x3, x4, x5, x6⟩ := hX2.facts)) | (go_at_call 107; (first | (refine (C1.out _ belB).mono ?_; clear C1) | refine (C2.out _ belB).mono ?_); rintro e w2 ⟨rfl, hb2⟩; (have hX2 : CBox w2 w.heap.size fr till pat A cl.length ca B co.length cb S si.length cs us := (by first | exact Blk.keep hX2 hb2 | exact Blk.keep (World.alloc_heap_new _ _) hb2); obtain ⟨x0, x1, x2, x3, x4, x5, x6⟩ := hX2.facts)) | (go_at_call 110; refine (C3.out _ belB).mono ?_; rintro e w2 ⟨rfl, hb2⟩)); go_ret; exact ⟨rfl, belB⟩)
end Go.Proofs.YtjhlpkhfdghngaaGreatDoor
namespace Go.Proofs.YtjhlpkhfdghngaaGreatDoor
open Go.RowKit Go.Sort
set_option linter.unusedVariables false
set_option linter.unusedSimpArgs false
set_option maxRecDepth 100000
def patT (p : ByteArray) : ByteArray := if p.size = 0 then ⟨#[42, 47, 42, 42]⟩ else p
end Go.Proofs.YtjhlpkhfdghngaaGreatDoor
namespace Go.Proofs.YtjhlpkhfdghngaaGreatDoor
open Go.RowKit Go.Sort
set_option linter.unusedVariables false
set_option linter.unusedSimpArgs false
set_option maxRecDepth 100000
structure AskV where
  addr : ByteArray
  client : ByteArray
  country : ByteArray
  site : Int
  lo : Int
  hi : Int
def validAsk (a : AskV) : Bool := readB a.addr && isNameB a.client && countryB a.country && siteB a.site && decide (0 ≤ a.lo ∧ a.lo ≤ a.hi ∧ a.hi ≤ 1099511627776)
def holdsC (c : CondV) (a : AskV) : Bool := validC c && validAsk a && decide (c.fr ≤ a.lo ∧ a.hi < c.till) && matchB (patT c.pat) a.addr && allowsL c.cl a.client && allowsL c.co a.country && allowsL c.si a.site
end Go.Proofs.YtjhlpkhfdghngaaGreatDoor
namespace Go.Proofs.YtjhlpkhfdghngaaGreatDoor
open Go.RowKit Go.Sort
set_option linter.unusedVariables false
set_option linter.unusedSimpArgs false
set_option maxRecDepth 100000
def AskV.val (a : AskV) : Value := .agg #[.string a.addr, .string a.client, .string a.country, .int .i64 a.site, .int .i64 a.lo, .int .i64 a.hi]
end Go.Proofs.YtjhlpkhfdghngaaGreatDoor
namespace Go.Proofs.YtjhlpkhfdghngaaGreatDoor
open Go.RowKit Go.Sort
set_option linter.unusedVariables false
set_option linter.unusedSimpArgs false
set_option maxRecDepth 100000
theorem key_less (a b : ByteArray) : (!(Op.bytesLess a.toList b.toList || a.toList == b.toList)) = decide (b.data.toList < a.data.toList) := by
  rw [bytesLess_eq, Lib.toList_data, Lib.toList_data, Bool.eq_iff_iff]
  simp only [Bool.not_eq_true', Bool.or_eq_false_iff, decide_eq_false_iff_not, beq_eq_false_iff_ne, decide_eq_true_eq]
  constructor
  · rintro ⟨h1, h2⟩; exact lt_tri _ _ h2 h1
  · intro h
    exact ⟨fun h1 => List.lt_irrefl _ (List.lt_trans h h1), fun e => List.lt_irrefl _ (by rw [e] at h; exact h)⟩
theorem pairK_at (qs : List (ByteArray × ByteArray)) (k : Nat) (hk : k < qs.length) : pairK qs k = true ↔ isNameB qs[k].1 = true ∧ isWordB qs[k].2 = true ∧ (k = 0 ∨ ∃ h : k - 1 < qs.length, qs[k - 1].1.data.toList < qs[k].1.data.toList) := by
  unfold pairK
  rw [List.getElem?_eq_getElem hk]
  simp only [Bool.and_eq_true, Bool.or_eq_true, beq_iff_eq]
  have hk1 : k - 1 < qs.length := by omega
  rw [List.getElem?_eq_getElem hk1]
  simp only [Option.getD_some]
  rw [key_less, decide_eq_true_eq]
  constructor
  · rintro ⟨⟨h1, h2⟩, h3⟩
    exact ⟨h1, h2, h3.imp id fun h => ⟨hk1, h⟩⟩
  · rintro ⟨h1, h2, h3⟩
    exact ⟨⟨h1, h2⟩, h3.imp id fun ⟨_, h⟩ => h⟩
theorem formed_iff (c : ByteArray) (xs : List ByteArray) (qs : List (ByteArray × ByteArray)) : formedB c xs qs = true ↔ AdrGood ⟨c, xs, qs⟩ ∧ (W06 c xs qs).length ≤ 4096 := by
  unfold formedB headOk
  simp only [Bool.and_eq_true, decide_eq_true_eq, List.all_eq_true, List.mem_range]
  constructor
  · rintro ⟨⟨⟨⟨⟨h1, h2⟩, h3⟩, h4⟩, h5⟩, h6⟩
    have hat := fun k hk => (pairK_at qs k hk).1 (h5 k hk)
    refine ⟨⟨h1, h4, h2, h3, ?_, ?_⟩, h6⟩
    · intro q hq
      obtain ⟨k, hk, rfl⟩ := List.getElem_of_mem hq
      exact ⟨(hat k hk).1, (hat k hk).2.1⟩
    · unfold KeysUp
      rw [List.pairwise_iff_getElem]
      intro i j
      induction j with
      | zero => intro _ _ h; omega
      | succ j ih =>
        intro hi hj hij
        rcases (hat (j + 1) hj).2.2 with h | ⟨h, h7⟩
        · omega
        · have e : j + 1 - 1 = j := rfl
          simp only [e] at h7
          by_cases hij2 : i = j
          · subst hij2; exact h7
          · exact List.lt_trans (ih hi (by omega) (by omega)) h7
  · rintro ⟨⟨h1, h4, h2, h3, h5, h7⟩, h6⟩
    refine ⟨⟨⟨⟨⟨h1, h2⟩, h3⟩, h4⟩, fun k hk => ?_⟩, h6⟩
    rw [pairK_at qs k hk]
    have hq := h5 qs[k] (List.getElem_mem hk)
    refine ⟨hq.1, hq.2, ?_⟩
    by_cases h0 : k = 0
    · exact .inl h0
    · have hk1 : k - 1 < qs.length := by omega
      exact .inr ⟨hk1, List.pairwise_iff_getElem.1 h7 (k - 1) k hk1 hk (by omega)⟩
section
variable {c : ByteArray} {ws : List ByteArray} (hc : isNameB c = true) (hw : ∀ w ∈ ws, isWordB w = true) (hn : ws.length ≤ 32)
include hc hw hn
end
end Go.Proofs.YtjhlpkhfdghngaaGreatDoor
namespace Go.Proofs.YtjhlpkhfdghngaaGreatDoor
open Go.RowKit Go.Sort
set_option linter.unusedVariables false
set_option linter.unusedSimpArgs false
set_option maxRecDepth 100000
def totP (l : List (List UInt8)) : Nat := (pathL l).length
theorem totP_cons (x : List UInt8) (l : List (List UInt8)) : totP (x :: l) = x.length + 1 + totP l := by simp [totP, pathL]; omega
theorem totP_nil : totP [] = 0 := rfl
theorem totP_app (a b : List (List UInt8)) : totP (a ++ b) = totP a + totP b := by simp [totP, pathL]
theorem split_tot (c : UInt8) : ∀ l : List UInt8, totP (splitL c l) = l.length + 1
  | [] => by simp [splitL, totP_cons, totP_nil]
  | b :: l => by
    have ih := split_tot c l
    unfold splitL
    split
    · rw [totP_cons, ih]; simp; omega
    · cases hs : splitL c l with
      | nil => exact absurd hs (splitL_ne c l)
      | cons p ps =>
        rw [hs, totP_cons] at ih
        simp only [totP_cons, List.length_cons]
        omega
theorem lists_split (c : UInt8) (s : ByteArray) : lists (splitB c s) = splitL c s.data.toList := by
  unfold splitB lists
  rw [List.map_map]
  conv => rhs; rw [← List.map_id (splitL c s.data.toList)]
  exact List.map_congr_left fun x _ => rfl
theorem totP_dropLast (l : List ByteArray) : totP (lists l.dropLast) ≤ totP (lists l) := by
  rcases List.eq_nil_or_concat l with rfl | ⟨a, x, rfl⟩
  · exact Nat.le_refl _
  · rw [List.concat_eq_append, List.dropLast_concat]
    unfold lists
    rw [List.map_append, totP_app]
    omega
theorem res_tot : ∀ (ps out r : List ByteArray), resB out ps = some r → totP (lists r) ≤ totP (lists out) + totP (lists ps)
  | [], out, r, e => by simp [resB] at e; subst e; simp [lists, totP_nil]
  | p :: ps, out, r, e => by
    rw [resB] at e
    cases hs : resStep out p with
    | none => rw [hs] at e; cases e
    | some o =>
      rw [hs, Option.bind_some] at e
      have ih := res_tot ps o r e
      have ho : totP (lists o) ≤ totP (lists out) + (p.data.toList.length + 1) := by
        unfold resStep at hs
        split at hs
        · injection hs with hs; subst hs; omega
        · split at hs
          · injection hs with hs; subst hs
            have := totP_dropLast out
            omega
          · split at hs
            · injection hs with hs; subst hs
              unfold lists
              rw [List.map_append, totP_app, List.map_cons, totP_cons]
              simp [totP_nil]
            · cases hs
      have hp : totP (lists (p :: ps)) = p.data.toList.length + 1 + totP (lists ps) := totP_cons _ _
      omega
def totQ : List (List UInt8 × List UInt8) → Nat
  | [] => 0
  | q :: l => q.1.length + q.2.length + 2 + totQ l
theorem query_tot : ∀ (sep : UInt8) (l : List (List UInt8 × List UInt8)), (queryL sep l).length = totQ l
  | _, [] => rfl
  | sep, (k, v) :: l => by simp [queryL, totQ, query_tot 38 l]; omega
theorem insL_tot (p : List UInt8 × List UInt8) : ∀ l : List (List UInt8 × List UInt8), totQ (insL l p) ≤ totQ l + (p.1.length + p.2.length + 2)
  | [] => by simp [insL, totQ]
  | q :: l => by
    unfold insL
    have ih := insL_tot p l
    split
    · simp only [totQ]; omega
    · split <;> simp only [totQ] <;> omega
theorem fold_tot : ∀ (l acc : List (List UInt8 × List UInt8)), totQ (l.foldl insL acc) ≤ totQ acc + totQ l
  | [], acc => by simp [totQ]
  | p :: l, acc => by
    have h1 := fold_tot l (insL acc p)
    have h2 := insL_tot p acc
    rw [List.foldl_cons]
    simp only [totQ]
    omega
theorem totQ_app : ∀ (a b : List (List UInt8 × List UInt8)), totQ (a ++ b) = totQ a + totQ b
  | [], b => by simp [totQ]
  | q :: a, b => by simp only [List.cons_append, totQ, totQ_app a b]; omega
theorem cut_tot (l : List UInt8) (c : UInt8) : (Lib.cut l [c]).1.length + (if (Lib.cut l [c]).2.2 then 1 + (Lib.cut l [c]).2.1.length else 0) = l.length ∧ ((Lib.cut l [c]).2.2 = false → (Lib.cut l [c]).2.1 = []) := by
  by_cases h : c ∈ l
  · obtain ⟨a, b, rfl, hna⟩ : ∃ a b, l = a ++ c :: b ∧ c ∉ a := by
      induction l with
      | nil => simp at h
      | cons x l ih =>
        by_cases e : x = c
        · subst e; exact ⟨[], l, rfl, by simp⟩
        · rcases List.mem_cons.1 h with h | h
          · exact absurd h.symm e
          · obtain ⟨a, b, h1, h2⟩ := ih h
            exact ⟨x :: a, b, by rw [h1]; rfl, by simp [h2]; exact fun e2 => e e2.symm⟩
    rw [cut_hit a b c hna]
    simp
    omega
  · rw [cut_none l c h]
    simp
theorem qAcc_tot : ∀ (ps : List ByteArray) (acc r : List (List UInt8 × List UInt8)), qAcc acc ps = some r → totQ r ≤ totQ acc + totP (lists ps)
  | [], acc, r, e => by simp [qAcc] at e; subst e; simp [lists, totP_nil]
  | p :: ps, acc, r, e => by
    rw [qAcc] at e
    cases hs : parsePair p with
    | none => rw [hs] at e; cases e
    | some x =>
      rw [hs] at e
      have ih := qAcc_tot ps _ r e
      have hx : x.1.length + x.2.length + 1 = p.data.toList.length := by
        unfold parsePair at hs
        split at hs
        · rename_i hc
          injection hs with hs
          subst hs
          simp only [Bool.and_eq_true] at hc
          have := (cut_tot p.data.toList 61).1
          rw [hc.1.1] at this
          simp only [if_true] at this
          dsimp only
          omega
        · cases hs
      have hp : totP (lists (p :: ps)) = p.data.toList.length + 1 + totP (lists ps) := totP_cons _ _
      rw [totQ_app] at ih
      simp only [totQ] at ih
      omega
theorem pairs_tot (q : List UInt8) (r : List (ByteArray × ByteArray)) (h : pairsB (toB q) = some r) : totQ (lists2 r) ≤ (if q = [] then 0 else q.length + 1) := by
  unfold pairsB at h
  split at h
  · injection h with h; subst h; simp [lists2, totQ]
  · rename_i hne
    rw [Lib.toList_data] at hne
    have hq : q ≠ [] := fun e => hne (by rw [e]; rfl)
    rw [if_neg hq]
    obtain ⟨acc, ha, rfl⟩ := Option.map_eq_some_iff.1 h
    have h1 := qAcc_tot _ _ _ ha
    rw [lists_split, split_tot] at h1
    have h2 := fold_tot acc []
    have h3 : lists2 ((pairsL acc).map fun q => (toB q.1, toB q.2)) = pairsL acc := by
      unfold lists2
      rw [List.map_map]
      conv => rhs; rw [← List.map_id (pairsL acc)]
      exact List.map_congr_left fun x _ => rfl
    rw [h3]
    unfold pairsL
    simp only [totQ] at h1 h2
    have h4 : (toB q).data.toList.length = q.length := rfl
    omega
theorem trimS_le (l : List UInt8) : (Lib.trimSuffix l [47]).length ≤ l.length := trim_len l [47]
theorem parse_short (s : ByteArray) (h : (parseB s).2 = 0) : (W06 (parseB s).1.cust (parseB s).1.path (parseB s).1.query).length ≤ s.size ∧ s.size ≤ 4096 := by
  unfold parseB at h ⊢
  split at h
  · cases h
  · rename_i hs
    rw [if_neg hs]
    refine ⟨?_, by omega⟩
    have hl0 := cut_tot (lowL s.data.toList) 63
    have hc0 := cut_tot (Lib.trimSuffix (leftL s).1 [47]) 47
    have ht := trimS_le (leftL s).1
    have hlow := lowL_len s.data.toList
    have hp : ∀ p, pathB (custL s) = some p → totP (lists p) ≤ if (custL s).2.2 then 1 + (custL s).2.1.length else 0 := by
      intro p hp
      unfold pathB at hp
      split at hp
      · rename_i hm
        have := res_tot _ _ _ hp
        rw [lists_split, split_tot] at this
        have e : (toB (custL s).2.1).data.toList.length = (custL s).2.1.length := rfl
        simp only [lists, List.map_nil, totP_nil] at this
        rw [if_pos hm]
        unfold lists
        omega
      · injection hp with hp; subst hp; simp [lists, totP_nil]
    have hq := fun r h => pairs_tot (leftL s).2.1 r h
    rw [size_data, ← hlow]
    change (leftL s).1.length + (if (leftL s).2.2 then 1 + (leftL s).2.1.length else 0) = _ ∧ _ at hl0
    change (custL s).1.length + (if (custL s).2.2 then 1 + (custL s).2.1.length else 0) = _ ∧ _ at hc0
    generalize pathB (custL s) = rr at *
    generalize pairsB (toB (leftL s).2.1) = qq at *
    generalize isNameB (toB (custL s).1) = nm at *
    unfold adrOf at h ⊢
    split at h
    · split at h
      · rename_i hl
        rw [if_pos hl]
        dsimp only
        have h1 := hp _ rfl
        have h2 := hq _ rfl
        unfold W06 writeL
        rw [List.length_append, List.length_append, query_tot]
        have e1 : (toB (custL s).1).data.toList.length = (custL s).1.length := rfl
        unfold totP at h1
        have h3 : (if (leftL s).2.1 = [] then 0 else (leftL s).2.1.length + 1) ≤ if (leftL s).2.2 then 1 + (leftL s).2.1.length else 0 := by
          split
          · omega
          · rename_i hne
            cases hb : (leftL s).2.2
            · exact absurd (hl0.2 hb) hne
            · simp; omega
        omega
      · cases h
    · cases h
end Go.Proofs.YtjhlpkhfdghngaaGreatDoor
