/- The condition package's clients, countries and sites, as iterators. -/
import Derived.Test.YtocgkpdolgnbgaaGreatDoorPJB
import Derived.Test.YtocgkpdolgnbgaaGreatDoorPGB
import Derived.Test.YtocgkpdolgnbgaaGreatDoorProg
import Derived.WalkKit
import Derived.WalkSpells
import Derived.WalkLawsBesides
import Derived.Below
import Derived.Deep.QuietTactic
import Derived.BigQuiet
import Derived.Lib.QuietBelow
import Derived.Lib.Strings
import Derived.Lib.Hide
import Derived.Deep.RegionWith
import Derived.Deep.RegionHeld3
import Derived.Lib.IndexBytes
import Derived.Test.YtocgkpdolgnbgaaGreatDoorPPlainX
import Derived.Deep.DeepCutAuto
import Derived.RegionTactic
import Derived.ChangeAlike
import Derived.Test.YtocgkpdolgnbgaaGreatDoorPJA
namespace Go.Proofs.YtocgkpdolgnbgaaGreatDoor
open Go.RowKit Go.Sort
set_option linter.unusedVariables false
set_option linter.unusedSimpArgs false
set_option maxRecDepth 100000
attribute [local go_sem] Oper.semAt_some
set_option maxHeartbeats 4000000 in
theorem sites_iter (h : Nat) (w : World) : Iter Tryz.prog 46 #[] (allSites.map (.int .i64)) (fun _ _ => False) 0 h w := by
  intro l J Jx W hW _ _ hY hJ0
  clear hW
  refine callsIn_of_wp Tryz.func46 rfl trivial ?_ rfl
  simp only [Tryz.ntmps46, List.size_toArray, List.length_cons, List.length_nil, Nat.reduceAdd, Nat.reduceSub, Array.replicate_succ, Array.replicate_zero, List.push_toArray, List.append_toArray, List.nil_append, List.cons_append]
  have HY := Lib.hid hY
  clear hY
  gi_wp2
  gi_loopw [3] (fun i wr => ∃ k : Nat, i = .int .i64 k ∧ k ≤ 64 ∧ J k wr) (fun i _ => 64 - (intOf i).toNat)
  case atStart => exact ⟨0, rfl, by omega, hJ0⟩
  case round =>
    clear hJ0
    obtain ⟨k, rfl, hk, hJ⟩ := hrel
    by_cases hkn : k < 64
    · have hxv : (allSites.map (Value.int .i64))[k]? = some (.int .i64 k) := by
        unfold allSites
        rw [List.map_map, List.getElem?_map, List.getElem?_range hkn]
        rfl
      obtain ⟨fn, tmps, assign, body, hy, hRd⟩ := HY.out k _ wr hxv hJ
      clear hxv
      have hk1 : (k : Int) < 64 := by omega
      gi_wp2
      refine ⟨rfl, hRd.mono ?_⟩
      rintro e W' (⟨rfl, hJ', hk'⟩ | ⟨rfl, hJx'⟩)
      · gi_wp2
        exact ⟨⟨k + 1, by go_num, by omega, hJ'⟩, by simp [intOf]; omega⟩
      · gi_wp2
        refine bodyPost_ret (results_none rfl _ _ _) rfl ?_
        exact ⟨⟨_, rfl⟩, .inr hJx'⟩
    · obtain rfl : k = 64 := by omega
      gi_wp2
      go_end0
      exact ⟨⟨_, rfl⟩, .inl (by simpa [allSites] using hJ)⟩
def cliB (k : Nat) : ByteArray := ⟨#[99, UInt8.ofNat (48 + k / 10), UInt8.ofNat (48 + k % 10)]⟩
def couB (k : Nat) : ByteArray := ⟨#[UInt8.ofNat (97 + k / 26), UInt8.ofNat (97 + k % 26)]⟩
theorem u8_of (n : Nat) (h : n < 256) : ((UInt8.ofNat n).toNat : Int) = (n : Int) := by
  have : (UInt8.ofNat n).toNat = n := by simp; omega
  rw [this]
theorem conv3 (W : World) (k c : Nat) (hk : k < 33) (g : Nat) (hg : g = W.heap.size) (a b : Int) (ha : a = 48 + (k : Int) / 10) (hb : b = 48 + (k : Int) % 10) :
    (convert 131 9 (.slice (some ⟨g, 0, none⟩) 3 c)).run Tryz.prog (W.alloc (.cells #[.int .u8 99, .int .u8 a, .int .u8 b] 5)) = .ok (.string (cliB k)) (W.alloc (.cells #[.int .u8 99, .int .u8 a, .int .u8 b] 5)) := by
  subst hg
  subst ha
  subst hb
  have hx : Blk (W.alloc (.cells #[.int .u8 99, .int .u8 (48 + (k : Int) / 10), .int .u8 (48 + (k : Int) % 10)] 5)) W.heap.size 5 #[.int .u8 99, .int .u8 (48 + (k : Int) / 10), .int .u8 (48 + (k : Int) % 10)] (0, 0) := World.alloc_heap_new _ _
  refine run_convert_bytes_back _ _ _ 5 ⟨W.heap.size, 0, none⟩ c [99, UInt8.ofNat (48 + k / 10), UInt8.ofNat (48 + k % 10)] Tryz.underlying131 Tryz.underlying5 Tryz.underlying9 (fun j hj => ?_)
  have e1 := u8_of (48 + k / 10) (by omega)
  have e2 := u8_of (48 + k % 10) (by omega)
  rw [show (⟨W.heap.size, 0, none⟩ : Addr).add j = ⟨W.heap.size, 0 + j, none⟩ by unfold Addr.add; split <;> simp_all]
  rcases j with _ | _ | _ | j
  · exact hx.cell 0
  · have := hx.cell 1
    simp only [List.getElem_cons_succ, List.getElem_cons_zero]
    rw [e1]
    simp
  · have := hx.cell 2
    simp only [List.getElem_cons_succ, List.getElem_cons_zero]
    rw [e2]
    simp
  · simp at hj; omega
theorem conv2 (W : World) (k c : Nat) (hk : k < 676) (g : Nat) (hg : g = W.heap.size) (a b : Int) (ha : a = 97 + (k : Int) / 26) (hb : b = 97 + (k : Int) % 26) :
    (convert 131 9 (.slice (some ⟨g, 0, none⟩) 2 c)).run Tryz.prog (W.alloc (.cells #[.int .u8 a, .int .u8 b] 5)) = .ok (.string (couB k)) (W.alloc (.cells #[.int .u8 a, .int .u8 b] 5)) := by
  subst hg
  subst ha
  subst hb
  have hx : Blk (W.alloc (.cells #[.int .u8 (97 + (k : Int) / 26), .int .u8 (97 + (k : Int) % 26)] 5)) W.heap.size 5 #[.int .u8 (97 + (k : Int) / 26), .int .u8 (97 + (k : Int) % 26)] (0, 0) := World.alloc_heap_new _ _
  refine run_convert_bytes_back _ _ _ 5 ⟨W.heap.size, 0, none⟩ c [UInt8.ofNat (97 + k / 26), UInt8.ofNat (97 + k % 26)] Tryz.underlying131 Tryz.underlying5 Tryz.underlying9 (fun j hj => ?_)
  have e1 := u8_of (97 + k / 26) (by omega)
  have e2 := u8_of (97 + k % 26) (by omega)
  rw [show (⟨W.heap.size, 0, none⟩ : Addr).add j = ⟨W.heap.size, 0 + j, none⟩ by unfold Addr.add; split <;> simp_all]
  rcases j with _ | _ | j
  · have := hx.cell 0
    simp only [List.getElem_cons_zero]
    rw [e1]
    simp
  · have := hx.cell 1
    simp only [List.getElem_cons_succ, List.getElem_cons_zero]
    rw [e2]
    simp
  · simp at hj; omega
set_option maxHeartbeats 4000000 in
theorem clients_iter (h : Nat) (w : World) : Iter Tryz.prog 43 #[] (allClients.map .string) (fun _ _ => False) 0 h w := by
  intro l J Jx W hW hAb _ hY hJ0
  refine callsIn_of_wp Tryz.func43 rfl trivial ?_ rfl
  simp only [Tryz.ntmps43, List.size_toArray, List.length_cons, List.length_nil, Nat.reduceAdd, Nat.reduceSub, Array.replicate_succ, Array.replicate_zero, List.push_toArray, List.append_toArray, List.nil_append, List.cons_append]
  have HY := Lib.hid hY
  have HAB := Lib.hid (fun k W1 o (hJ : J k W1) => hAb k W1 (W1.alloc o) none hJ (World.grownBy_alloc W1 o none) (fun r e => by cases e))
  clear hY hAb hW
  gi_wp2
  gi_loopw [3] (fun i wr => ∃ k : Nat, i = .int .i64 k ∧ k ≤ 33 ∧ J k wr) (fun i _ => 33 - (intOf i).toNat)
  case atStart => exact ⟨0, rfl, by omega, hJ0⟩
  case round =>
    clear hJ0
    obtain ⟨k, rfl, hk, hJ⟩ := hrel
    by_cases hkn : k < 33
    · have hxv : (allClients.map Value.string)[k]? = some (.string (cliB k)) := by
        unfold allClients
        rw [List.map_map, List.getElem?_map, List.getElem?_range hkn]
        rfl
      have hcv := fun c => conv3 wr k c hkn wr.heap.size rfl _ _ rfl rfl
      obtain ⟨fn, tmps, assign, body, hy, hRd⟩ := HY.out k _ (wr.alloc (.cells #[.int .u8 99, .int .u8 (48 + (k : Int) / 10), .int .u8 (48 + (k : Int) % 10)] 5)) hxv (HAB.out k wr _ hJ)
      clear hxv
      have hk1 : (k : Int) < 33 := by omega
      have b1 : (k : Int) / 10 ≤ 3 := by omega
      have b2 : 0 ≤ (k : Int) / 10 := by omega
      have b3 : (k : Int) % 10 ≤ 9 := by omega
      have b4 : 0 ≤ (k : Int) % 10 := by omega
      gi_wp2
      refine ⟨rfl, hRd.mono ?_⟩
      rintro e W' (⟨rfl, hJ', hk'⟩ | ⟨rfl, hJx'⟩)
      · gi_wp2
        exact ⟨⟨k + 1, by go_num, by omega, hJ'⟩, by simp [intOf]; omega⟩
      · gi_wp2
        refine bodyPost_ret (results_none rfl _ _ _) rfl ?_
        exact ⟨⟨_, rfl⟩, .inr hJx'⟩
    · obtain rfl : k = 33 := by omega
      gi_wp2
      go_end0
      exact ⟨⟨_, rfl⟩, .inl (by simpa [allClients] using hJ)⟩
set_option maxHeartbeats 4000000 in
theorem countries_iter (h : Nat) (w : World) : Iter Tryz.prog 44 #[] (allCountries.map .string) (fun _ _ => False) 0 h w := by
  intro l J Jx W hW hAb _ hY hJ0
  refine callsIn_of_wp Tryz.func44 rfl trivial ?_ rfl
  simp only [Tryz.ntmps44, List.size_toArray, List.length_cons, List.length_nil, Nat.reduceAdd, Nat.reduceSub, Array.replicate_succ, Array.replicate_zero, List.push_toArray, List.append_toArray, List.nil_append, List.cons_append]
  have HY := Lib.hid hY
  have HAB := Lib.hid (fun k W1 o (hJ : J k W1) => hAb k W1 (W1.alloc o) none hJ (World.grownBy_alloc W1 o none) (fun r e => by cases e))
  clear hY hAb hW
  gi_wp2
  gi_loopw [3] (fun i wr => ∃ k : Nat, i = .int .i64 k ∧ k ≤ 676 ∧ J k wr) (fun i _ => 676 - (intOf i).toNat)
  case atStart => exact ⟨0, rfl, by omega, hJ0⟩
  case round =>
    clear hJ0
    obtain ⟨k, rfl, hk, hJ⟩ := hrel
    by_cases hkn : k < 676
    · have hxv : (allCountries.map Value.string)[k]? = some (.string (couB k)) := by
        unfold allCountries
        rw [List.map_map, List.getElem?_map, List.getElem?_range hkn]
        rfl
      have hcv := fun c => conv2 wr k c hkn wr.heap.size rfl _ _ rfl rfl
      obtain ⟨fn, tmps, assign, body, hy, hRd⟩ := HY.out k _ (wr.alloc (.cells #[.int .u8 (97 + (k : Int) / 26), .int .u8 (97 + (k : Int) % 26)] 5)) hxv (HAB.out k wr _ hJ)
      clear hxv
      have hk1 : (k : Int) < 676 := by omega
      have b1 : (k : Int) / 26 ≤ 25 := by omega
      have b2 : 0 ≤ (k : Int) / 26 := by omega
      have b3 : (k : Int) % 26 ≤ 25 := by omega
      have b4 : 0 ≤ (k : Int) % 26 := by omega
      gi_wp2
      refine ⟨rfl, hRd.mono ?_⟩
      rintro e W' (⟨rfl, hJ', hk'⟩ | ⟨rfl, hJx'⟩)
      · gi_wp2
        exact ⟨⟨k + 1, by go_num, by omega, hJ'⟩, by simp [intOf]; omega⟩
      · gi_wp2
        refine bodyPost_ret (results_none rfl _ _ _) rfl ?_
        exact ⟨⟨_, rfl⟩, .inr hJx'⟩
    · obtain rfl : k = 676 := by omega
      gi_wp2
      go_end0
      exact ⟨⟨_, rfl⟩, .inl (by simpa [allCountries] using hJ)⟩
end Go.Proofs.YtocgkpdolgnbgaaGreatDoor
namespace Go.Proofs.YtocgkpdolgnbgaaGreatDoor
open Go.RowKit Go.Sort
set_option linter.unusedVariables false
set_option linter.unusedSimpArgs false
set_option maxRecDepth 100000
def coversV : Option Pat → Option Pat → Value
  | some x, some y => .tuple #[.bool (coverB x y), .string (if coverB x y then ⟨#[]⟩ else coverW x y), .int .i64 0]
  | _, _ => .tuple #[.bool false, .string ⟨#[]⟩, .int .i64 1]
theorem ownsRow_base {w : World} {b b' : Nat} {e : TypeId} {size n : Nat} {v : Value} {xs : List Value} (h : w.ownsRow b e size v n xs) (hb : b' ≤ b) : w.ownsRow b' e size v n xs := by
  obtain ⟨hl, h2⟩ := h
  refine ⟨hl, ?_⟩
  rcases h2 with h0 | ⟨g, cap, cur, hv, hg, r⟩
  · exact .inl h0
  · exact .inr ⟨g, cap, cur, hv, Nat.le_trans hb hg, r⟩
theorem Reads.put {w : World} {g n k : Nat} {vs : List Value} (h : Reads w 1 (some ⟨g, 0, none⟩) n vs) (hk : k < n) (v : Value) : Reads (w.setCell ⟨g, 0 + k, none⟩ v) 1 (some ⟨g, 0, none⟩) n (vs.set k v) := by
  refine ⟨by simpa using h.1, fun hn => ⟨g, 0, rfl, fun j u hu => ?_⟩⟩
  obtain ⟨b, o, he, hc⟩ := h.2 hn
  injection he with he; injection he with h1 h2 _; subst h1; subst h2
  by_cases e : k = j
  · subst e
    have hl : k < vs.length := by have := h.1; omega
    rw [List.getElem?_set_self hl] at hu
    injection hu with hu; subst hu
    exact World.cell?_setCell_same w _ v (hc k _ (List.getElem?_eq_getElem hl))
  · rw [List.getElem?_set_ne e] at hu
    exact (World.cell?_setCell_other w _ ⟨g, 0 + j, none⟩ v (by intro h; injection h with _ h _; omega)).trans (hc j u hu)
theorem badL_at : ∀ (k : Nat) (xs ys : List Part) (a b : Part), xs[k]? = some a → ys[k]? = some b → (∀ j < k, ∀ p q, xs[j]? = some p → ys[j]? = some q → coversP p.kind p.text q.kind q.text = true) → coversP a.kind a.text b.kind b.text = false →
    badL xs ys = some ((wordsL ys).set k (withoutP b.kind b.text a.kind a.text))
  | _, [], ys, a, b, h, _, _, _ => by simp at h
  | _, _ :: _, [], a, b, _, h, _, _ => by simp at h
  | 0, x :: xs, y :: ys, a, b, h1, h2, _, h4 => by
    simp at h1 h2
    subst h1; subst h2
    rw [badL, if_neg (by rw [h4]; decide)]
    rfl
  | k + 1, x :: xs, y :: ys, a, b, h1, h2, h3, h4 => by
    have := h3 0 (by omega) x y rfl rfl
    rw [badL, if_pos this, badL_at k xs ys a b (by simpa using h1) (by simpa using h2) (fun j hj p q hp hq => h3 (j + 1) (by omega) p q (by simpa using hp) (by simpa using hq)) h4]
    rfl
theorem coverL_false : ∀ (xs ys : List Part), badL xs ys ≠ none → coverL xs ys = false
  | [], ys, h => absurd rfl h
  | _ :: _, [], _ => rfl
  | a :: xs, b :: ys, h => by
    rw [badL] at h
    rw [coverL]
    cases hc : coversP a.kind a.text b.kind b.text
    · rfl
    · rw [hc] at h
      simp only [if_true, ne_eq, Option.map_eq_none_iff] at h
      rw [Bool.true_and]
      exact coverL_false xs ys h
theorem coverL_all : ∀ (xs ys : List Part), xs.length ≤ ys.length → (∀ j < xs.length, ∀ p q, xs[j]? = some p → ys[j]? = some q → coversP p.kind p.text q.kind q.text = true) → coverL xs ys = true
  | [], _, _, _ => rfl
  | _ :: _, [], h, _ => by simp at h
  | a :: xs, b :: ys, h, h2 => by
    rw [coverL, h2 0 (by simp) a b rfl rfl, Bool.true_and]
    exact coverL_all xs ys (by simpa using h) fun j hj p q hp hq => h2 (j + 1) (by simpa using hj) p q (by simpa using hp) (by simpa using hq)
set_option maxHeartbeats 4000000 in
theorem covers_any2 (p q : ByteArray) (w : World) (hp : p.size ≤ 100000) (hq : q.size ≤ 100000) (hE : Env w) : Calls Tryz.prog 40 #[.string p, .string q] w (Ret w (coversV (compileB p) (compileB q))) := by
  have c1 := fun W h => compile_any p W hp h
  have c2 := fun W h => compile_any q W hq h
  have g1 := compile_good p hp
  have g2 := compile_good q hq
  generalize compileB p = r1 at *
  generalize compileB q = r2 at *
  have hbad : r1.isSome = false ∨ r2.isSome = false → Calls Tryz.prog 40 #[.string p, .string q] w (Ret w (.tuple #[.bool false, .string ⟨#[]⟩, .int .i64 1])) := by
    intro hbad
    have H1 := Lib.hid (fun W h => (c1 W h).mono fun e w' k => compPost_any k)
    have H2 := Lib.hid (fun W h => (c2 W h).mono fun e w' k => compPost_any k)
    clear c1 c2 g1 g2
    generalize r1.isSome = o1 at *
    generalize r2.isSome = o2 at *
    clear r1 r2
    cases o1
    · clear hbad
      go_enter Tryz.func40, Tryz.ntmps40
      go_wp2_with (first | (go_at_call 97; refine (H1.out _ hE).mono ?_; rintro e w1 ⟨hb1, k1, t1, A1, n1, d1, b1, rfl⟩; have hE1 := Env.keep hE hb1; clear hE) | (go_at_call 97; refine (H2.out _ (Env.keep hE1 (balloc (Below.refl _ _) _))).mono ?_; rintro e w2 ⟨hb2, k2, t2, A2, n2, d2, b2, rfl⟩; clear hE1))
      go_ret3
      exact ⟨rfl, by (repeat (first | exact .refl _ _ | assumption | refine .drew ?_ | refine balloc ?_ _ | refine bdrewN ?_ _ | refine .setCell ?_ (by simp <;> omega) _ | refine bstep ?_ (by assumption)))⟩
    · obtain rfl : o2 = false := by simpa using hbad
      clear hbad
      go_enter Tryz.func40, Tryz.ntmps40
      go_wp2_with (first | (go_at_call 97; refine (H1.out _ hE).mono ?_; rintro e w1 ⟨hb1, k1, t1, A1, n1, d1, b1, rfl⟩; have hE1 := Env.keep hE hb1; clear hE) | (go_at_call 97; refine (H2.out _ (Env.keep hE1 (balloc (Below.refl _ _) _))).mono ?_; rintro e w2 ⟨hb2, k2, t2, A2, n2, d2, b2, rfl⟩; clear hE1))
      go_ret3
      exact ⟨rfl, by (repeat (first | exact .refl _ _ | assumption | refine .drew ?_ | refine balloc ?_ _ | refine bdrewN ?_ _ | refine .setCell ?_ (by simp <;> omega) _ | refine bstep ?_ (by assumption)))⟩
  cases r1 with
  | none => exact hbad (.inl rfl)
  | some x =>
    cases r2 with
    | none => exact hbad (.inr rfl)
    | some y =>
      clear hbad
      have gx := g1 x rfl
      have gy := g2 y rfl
      clear g1 g2
      obtain ⟨V, hV⟩ : ∃ V, V = coversV (some x) (some y) := ⟨_, rfl⟩
      rw [← hV]
      unfold coversV coverB coverW exText at hV
      obtain ⟨⟨xk, xt⟩, xs, xl⟩ := x
      obtain ⟨⟨yk, yt⟩, ys, yl⟩ := y
      obtain ⟨gx1, gx2, gx3, gx4⟩ := gx
      obtain ⟨gy1, gy2, gy3, gy4⟩ := gy
      dsimp only at *
      have cW := fun W => with_any yk yt ⟨#[97]⟩ W (by decide) (by omega) gy1
      have cL := fun A c W h => words_any yk yt A ys.length c yl ys W h gy3 (by omega)
      have cV := fun W => covers_any xk yk xt yt W (by omega) (by omega) gx1 gy1
      have cO := fun W => without_any yk xk yt xt W (by omega) (by omega) gy1 gx1
      have hc0 := withP_le (k := yk) (b := ⟨#[97]⟩) gy2 (Nat.le_refl _)
      have hwo : (withoutP yk yt xk xt).size ≤ 200000 := by unfold withoutP; split <;> exact withP_le gy2 (by decide)
      have hws := wordsL_le gy3
      have hwl : (wordsL ys).length = ys.length := by simp [wordsL]
      have cX1 := fun A c W h => example_any (withoutP yk yt xk xt) A ys.length c (wordsL ys) W h (by omega) hwo hws
      have cX2 := fun A n c (zs : List ByteArray) W h (hn : n ≤ 40) hz => example_any (withP yk yt ⟨#[97]⟩) A n c zs W h (by omega) hc0 hz
      generalize hcc0 : withP yk yt ⟨#[97]⟩ = c0 at *
      generalize hcov : coversP xk xt yk yt = cv at *
      generalize withoutP yk yt xk xt = co at *
      obtain ⟨n, hn⟩ : ∃ n, n = xs.length := ⟨_, rfl⟩
      obtain ⟨m, hm⟩ : ∃ m, m = ys.length := ⟨_, rfl⟩
      rw [← hn] at gx4
      rw [← hm] at gy4 hwl
      rw [← hm] at cL cX1
      rw [← hn, ← hm] at hV
      have HV := Lib.hid hV
      have H1 : Hid (∀ W, Env W → Calls Tryz.prog 97 #[.string p] W fun e w' => Below W.heap.size W w' ∧ ∃ A c, e = .returned (.tuple #[.agg #[.int .i64 xk, .string xt, .slice A n c, .bool xl], .bool true]) ∧ Reads w' 2 A n (partCells xs)) := Lib.hid (fun W h => by rw [hn]; exact (c1 W h).mono (by rintro e w' ⟨hb, A, c, rfl, hR, _⟩; exact ⟨hb, A, c, rfl, hR⟩))
      have H2 : Hid (∀ W, Env W → Calls Tryz.prog 97 #[.string q] W fun e w' => Below W.heap.size W w' ∧ ∃ A c, e = .returned (.tuple #[.agg #[.int .i64 yk, .string yt, .slice A m c, .bool yl], .bool true]) ∧ Reads w' 2 A m (partCells ys)) := Lib.hid (fun W h => by rw [hm]; exact (c2 W h).mono (by rintro e w' ⟨hb, A, c, rfl, hR, _⟩; exact ⟨hb, A, c, rfl, hR⟩))
      have HN := Lib.hid hn
      have HM := Lib.hid hm
      have HW := Lib.hid cW
      have HL := Lib.hid cL
      have HCV := Lib.hid cV
      have HO := Lib.hid cO
      have HX1 := Lib.hid cX1
      have HX2 := Lib.hid cX2
      have HGX := Lib.hid gx3
      have HGY := Lib.hid gy3
      have HWS := Lib.hid hws
      clear c1 c2 hn hm cW cL cV cO cX1 cX2 gx3 gy3 hV hws hcc0 hcov hwl hwo hc0
      go_enter Tryz.func40, Tryz.ntmps40
      go_upto_region 5 with (first | (go_at_call 97; refine (H1.out _ hE).mono ?_; rintro e w1 ⟨hb1, A1, d1, rfl, hR1⟩; have hE1 := Env.keep hE hb1; have HR1 := Lib.hid hR1; clear hE hR1) | (go_at_call 97; refine (H2.out _ (Env.keep hE1 (balloc (Below.refl _ _) _))).mono ?_; rintro e w2 ⟨hb2, A2, d2, rfl, hR2⟩; have hX2 : PBox w2 w1.heap.size xk xt (.slice A1 n d1) xl := (hb2.block w1.heap.size (by simp)).trans (World.alloc_heap_new _ _); have hz12 : w1.heap.size < w2.heap.size := Blk.lt hX2; have HR2 := Lib.hid hR2; have HR1' := Lib.hid (HR1.out.keep (blater _ hb2)); clear hE1 hR2 HR1))
      obtain ⟨W2, hW2⟩ : ∃ W2, W2 = w2.alloc (.cells #[.int .i64 yk, .string yt, .slice A2 m d2, .bool yl] 122) := ⟨_, rfl⟩
      have hY3 : PBox W2 w2.heap.size yk yt (.slice A2 m d2) yl := by rw [hW2]; exact World.alloc_heap_new _ _
      have hb22 : Below w2.heap.size w2 W2 := by rw [hW2]; exact balloc (Below.refl _ _) _
      have hX3 : PBox W2 w1.heap.size xk xt (.slice A1 n d1) xl := Blk.keep hX2 hb22
      have hR23 : Reads W2 2 A2 m (partCells ys) := HR2.out.keep hb22
      have hR13 : Reads W2 2 A1 n (partCells xs) := HR1'.out.keep hb22
      have hbw : Below w.heap.size w W2 := bstep (bstep hb1 (blater _ hb2)) hb22
      have hwW2 : w.heap.size ≤ W2.heap.size := hbw.size
      have hqb0 : 0 < m → ∀ a, A2 = some a → a.block < W2.heap.size := fun h a ha => by
        obtain ⟨b, o, he, hc⟩ := hR23.2 h
        have hl : 0 < (partCells ys).length := by have := hR23.1; omega
        have := hc 0 _ (List.getElem?_eq_getElem hl)
        rw [ha] at he; injection he with he; subst he
        exact cell_lt (a := ⟨b, o + 0, none⟩) this
      have HQB := Lib.hid hqb0
      clear hqb0
      have HR23 := Lib.hid hR23; have HR13 := Lib.hid hR13
      rw [← hW2]
      have hz22 := Blk.lt hY3
      have hz21 := Blk.lt hX3
      have HX3 := Lib.hid hX3; have HY3 := Lib.hid hY3
      clear hW2 HR2 HR1' hR23 hR13 hX2
      obtain ⟨x0, x1, x2, x3, _⟩ := hX3.facts
      obtain ⟨y0, y1, y2, y3, _⟩ := hY3.facts
      clear hX3 hY3
      go_cut [11, 12] (fun s11 s12 wx => s11 = .string c0 ∧ ∃ A3 c3, s12 = .slice A3 m c3 ∧ wx.ownsRow W2.heap.size 9 1 (.slice A3 m c3) m ((wordsL ys).map .string) ∧ Below W2.heap.size W2 wx)
      case first =>
        go_region_held3 (fun w' => w'.cell? ⟨w2.heap.size, 0, none⟩ = some (.int .i64 yk) ∧ w'.cell? ⟨w2.heap.size, 1, none⟩ = some (.string yt) ∧ w'.cell? ⟨w2.heap.size, 2, none⟩ = some (.slice A2 m d2) ∧ w'.cell? ⟨w2.heap.size, 3, none⟩ = some (.bool yl) ∧ Below W2.heap.size W2 w')
          (first | exact ⟨y0, y1, y2, y3, Below.drew (Below.refl _ _)⟩ | (go_split_ands; exact ⟨cell_keep hb3 ‹_›, cell_keep hb3 ‹_›, cell_keep hb3 ‹_›, cell_keep hb3 ‹_›, bstep ‹_› hb3⟩) | (go_split_ands; exact ⟨cell_keep hb4 ‹_›, cell_keep hb4 ‹_›, cell_keep hb4 ‹_›, cell_keep hb4 ‹_›, bstep ‹_› hb4⟩))
          (first | (go_at_call 98; refine (HW.out _).mono ?_; rintro e w3 ⟨rfl, hb3⟩) | (go_at_call 99; go_split_ands; refine (HL.out _ _ _ (HR23.out.keep ‹_›)).mono ?_; rintro e w4 ⟨A3, c3, rfl, hown, hb4⟩))
        all_goals go_wp2_with fail
        all_goals go_meet
        all_goals refine ⟨rfl, A3, c3, rfl, ?_, by go_split_ands; assumption⟩
        all_goals first | exact ownsRow_base hown (by have := hb3.size; simpa using this) | exact ownsRow_keep (ownsRow_base hown (Nat.le_refl _)) hb3
      case rest =>
        obtain ⟨rfl, A3, c3, rfl, hown, hbc⟩ := hcut
        clear HW HL x0 x1 x2 x3 y0 y1 y2 y3
        have hXc : PBox wc w1.heap.size xk xt (.slice A1 n d1) xl := Blk.keep HX3.out hbc
        have hYc : PBox wc w2.heap.size yk yt (.slice A2 m d2) yl := Blk.keep HY3.out hbc
        obtain ⟨x0, x1, x2, x3, _⟩ := hXc.facts
        obtain ⟨y0, y1, y2, y3, _⟩ := hYc.facts
        have hzc1 := Blk.lt hXc
        have hzc2 := Blk.lt hYc
        have hbwc : Below w.heap.size w wc := bstep hbw hbc
        have HRW := Lib.hid (Reads.of_own hown)
        have HOWN := Lib.hid hown
        have HXC := Lib.hid hXc; have HYC := Lib.hid hYc
        clear hown hXc hYc HX3 HY3
        cases cv
        · have hVe : V = .tuple #[.bool false, .string (joinS (co :: wordsL ys)), .int .i64 0] := by rw [HV.out]; simp
          clear HV
          subst hVe
          generalize joinS (co :: wordsL ys) = V2 at *
          go_wp2_with (first | (go_at_call 100; refine (HCV.out _).mono ?_; rintro e w5 ⟨rfl, hb5⟩; obtain ⟨hc5, hf5⟩ := bcell hb5) | (go_at_call 102; refine (HO.out _).mono ?_; rintro e w6 ⟨rfl, hb6⟩) | (go_at_call 101; refine (HX1.out _ _ _ ((HRW.out.keep hb5).keep hb6)).mono ?_; rintro e w7 ⟨rfl, hb7⟩))
          go_ret3
          exact ⟨rfl, by (repeat (first | exact .refl _ _ | assumption | refine .drew ?_ | refine balloc ?_ _ | refine bdrewN ?_ _ | refine .setCell ?_ (by simp <;> omega) _ | refine bstep ?_ (by assumption)))⟩
        · simp only [Bool.true_and, Bool.not_true, Bool.false_eq_true, if_false] at HV
          go_upto_region 8 with (go_at_call 100; refine (HCV.out _).mono ?_; rintro e w5 ⟨rfl, hb5⟩; have hX5 : PBox w5 w1.heap.size xk xt (.slice A1 n d1) xl := Blk.keep HXC.out hb5; have hY5 : PBox w5 w2.heap.size yk yt (.slice A2 m d2) yl := Blk.keep HYC.out hb5; clear x0 x1 x2 x3 y0 y1 y2 y3; obtain ⟨x0, x1, x2, x3, _⟩ := hX5.facts; obtain ⟨y0, y1, y2, y3, _⟩ := hY5.facts)
          go_cut [13, 14] (fun s13 s14 wx => s13 = .int .i64 n ∧ s14 = .int .i64 m ∧ Below w5.heap.size w5 wx)
          case first =>
            go_quiet (fail)
            go_wp2_with fail
            go_meet
            exact ⟨rfl, rfl, by (repeat (first | exact .refl _ _ | assumption | refine .drew ?_ | refine balloc ?_ _ | refine bdrewN ?_ _ | refine .setCell ?_ (by simp <;> omega) _ | refine bstep ?_ (by assumption)))⟩
          case rest =>
            obtain ⟨rfl, rfl, hbd⟩ := hcut
            have hXd : PBox wc w1.heap.size xk xt (.slice A1 n d1) xl := Blk.keep hX5 hbd
            have hYd : PBox wc w2.heap.size yk yt (.slice A2 m d2) yl := Blk.keep hY5 hbd
            clear hX5 hY5 x0 x1 x2 x3 y0 y1 y2 y3
            obtain ⟨x0, x1, x2, x3, _⟩ := hXd.facts
            obtain ⟨y0, y1, y2, y3, _⟩ := hYd.facts
            have hzd1 := Blk.lt hXd
            have hzd2 := Blk.lt hYd
            have hbwd : Below w.heap.size w wc := bstep (bstep hbwc hb5) hbd
            have hown := ownsRow_keep (ownsRow_keep HOWN.out hb5) hbd
            have HRD := Lib.hid (Reads.of_own hown)
            have HOD := Lib.hid hown
            have hs2 : W2.heap.size ≤ wc.heap.size := by have h1 := hbc.size; have h2 := hb5.size; have h3 := hbd.size; omega
            have hRx : Reads wc 2 A1 n (partCells xs) := ((HR13.out.keep hbc).keep hb5).keep hbd
            have hRy : Reads wc 2 A2 m (partCells ys) := ((HR23.out.keep hbc).keep hb5).keep hbd
            have HRX := Lib.hid hRx; have HRY := Lib.hid hRy
            have HXD := Lib.hid hXd; have HYD := Lib.hid hYd
            clear HXC HYC HRW HOWN hown hXd hYd hRx hRy HR13 HR23 hbw hbwc hb22 hbc hb5 hbd HCV HO HX1
            have hw0 : ∀ x ∈ wordsL ys, x.size ≤ 200000 := HWS.out
            have HXE := Lib.hid (fun A c W h => HX2.out A m c (wordsL ys) W h (by omega) hw0)
            clear hw0
            by_cases hmn : m < n
            · have hd : decide (m < n) = true := decide_eq_true hmn
              have hVe : V = .tuple #[.bool false, .string (joinS (c0 :: wordsL ys)), .int .i64 0] := by rw [HV.out, hd]; simp
              clear HV
              subst hVe
              generalize joinS (c0 :: wordsL ys) = V2 at *
              go_wp2_with (go_at_call 101; refine (HXE.out _ _ _ HRD.out).mono ?_; rintro e w7 ⟨rfl, hb7⟩)
              go_ret3
              exact ⟨rfl, by (repeat (first | exact .refl _ _ | assumption | refine .drew ?_ | refine balloc ?_ _ | refine bdrewN ?_ _ | refine .setCell ?_ (by simp <;> omega) _ | refine bstep ?_ (by assumption)))⟩
            have hd : decide (m < n) = false := decide_eq_false hmn
            by_cases hnm : n < m ∧ xl = false
            · obtain ⟨hnm, rfl⟩ := hnm
              have hd2 : decide (n < m) = true := decide_eq_true hnm
              have hVe : V = .tuple #[.bool false, .string (joinS (c0 :: wordsL ys)), .int .i64 0] := by rw [HV.out, hd, hd2]; simp
              clear HV
              subst hVe
              generalize joinS (c0 :: wordsL ys) = V2 at *
              go_wp2_with (go_at_call 101; refine (HXE.out _ _ _ HRD.out).mono ?_; rintro e w7 ⟨rfl, hb7⟩)
              go_ret3
              exact ⟨rfl, by (repeat (first | exact .refl _ _ | assumption | refine .drew ?_ | refine balloc ?_ _ | refine bdrewN ?_ _ | refine .setCell ?_ (by simp <;> omega) _ | refine bstep ?_ (by assumption)))⟩
            have hd3 : (decide (n < m) && !xl) = false := by cases xl <;> simp at hnm ⊢; omega
            have hxx : ¬ n < m ∨ (n < m ∧ xl = true) := by cases xl <;> simp at hnm ⊢ <;> omega
            have HXX := Lib.hid hxx
            have HD3 := Lib.hid hd3
            clear hnm hd3 hxx
            go_upto_if 57 with fail
            obtain ⟨wd, hwd⟩ : ∃ wd : World, wd = wc := ⟨_, rfl⟩
            go_cut [57] (fun c wx => c = .bool false ∧ wx = wd)
            case first =>
              rcases HXX.out with h | ⟨h, e⟩
              · have hd2 : decide (n < m) = false := decide_eq_false h
                go_wp2_with fail
                go_meet
                exact ⟨rfl, hwd.symm⟩
              · subst e
                have hd2 : decide (n < m) = true := decide_eq_true h
                go_wp2_with fail
                go_meet
                exact ⟨rfl, hwd.symm⟩
            case rest =>
              obtain ⟨rfl, hcw⟩ := hcut
              rw [hwd] at hcw
              subst hcw
              clear hwd wd
              by_cases hcc : yl = true ∧ xl = false
              · obtain ⟨rfl, rfl⟩ := hcc
                have hVe : V = .tuple #[.bool false, .string (joinS (c0 :: (wordsL ys ++ [⟨#[97]⟩]))), .int .i64 0] := by
                  have h3 := HD3.out
                  rw [HV.out, hd, h3]; simp
                clear HV
                subst hVe
                have hw1 : ∀ x ∈ wordsL ys ++ [(⟨#[97]⟩ : ByteArray)], x.size ≤ 200000 := by
                  intro x hx
                  rcases List.mem_append.1 hx with hx | hx
                  · exact HWS.out x hx
                  · rw [List.mem_singleton.1 hx]; decide
                have HXF := Lib.hid (fun A c W h => HX2.out A (m + 1) c (wordsL ys ++ [⟨#[97]⟩]) W h (by omega) hw1)
                clear hw1 HXE HX2
                generalize joinS (c0 :: (wordsL ys ++ [⟨#[97]⟩])) = V2 at *
                obtain ⟨i0, hi0, hz0, hz1, hz2⟩ := info_parts infoStr
                have HI : Hid ((Tryz.prog.info? 9 = some i0) ∧ i0.zero = some (.string ⟨#[]⟩) ∧ i0.size = 1 ∧ i0.bytes = 16) := Lib.hid ⟨hi0, hz0, hz1, hz2⟩
                clear hi0 hz0 hz1 hz2
                go_wp2_with (first | (at_builtin; refine wpList_append_own _ rfl _ _ 22 rfl W2.heap.size 9 i0 (.string ⟨#[]⟩) 1 16 Tryz.underlying22 HI.out.1 HI.out.2.1 HI.out.2.2.1 HI.out.2.2.2 rfl (by decide) _ _ _ rfl (HOD.out.alloc _) ⟨wc.heap.size, 0, none⟩ 1 1 [.string ⟨#[97]⟩] rfl rfl (cell_one_new _ _ _) (by simp [Value.oneCell']) (by unfold maxLen; omega) (by omega) (by simp; omega) ?_; intro v' w8 hown' hgrow _; obtain ⟨g', cap', rfl⟩ := ownsRow_succ hown'; have hR8 : Reads w8 1 (some ⟨g', 0, none⟩) (m + 1) ((wordsL ys ++ [(⟨#[97]⟩ : ByteArray)]).map Value.string) := (by have hR9 := Reads.of_own hown'; rw [show (wordsL ys ++ [(⟨#[97]⟩ : ByteArray)]).map Value.string = (wordsL ys).map Value.string ++ [.string ⟨#[97]⟩] by simp]; exact hR9)) | (go_at_call 101; refine (HXF.out _ _ _ hR8).mono ?_; rintro e w7 ⟨rfl, hb7⟩))
                go_ret3
                have hb8 : Below w.heap.size w w8 := (hbwd.alloc hbwd.size _).grown hgrow (by have := hbwd.size; simp; omega) (fun r e => Nat.le_trans hwW2 (ownsRow_block HOD.out r e))
                exact ⟨rfl, by (repeat (first | exact .refl _ _ | assumption | refine .drew ?_ | refine balloc ?_ _ | refine bdrewN ?_ _ | refine .setCell ?_ (by simp <;> omega) _ | refine bstep ?_ (by assumption)))⟩
              · have hd4 : (yl && !xl) = false := by cases yl <;> cases xl <;> simp at hcc ⊢
                have HCC := Lib.hid hcc
                have HD4 := Lib.hid hd4
                clear hcc hd4
                go_upto_region 12 with fail
                obtain ⟨wd, hwd⟩ : ∃ wd : World, wd = wc := ⟨_, rfl⟩
                go_cut [72] (fun c wx => c = .bool false ∧ wx = wd)
                case first =>
                  cases yl
                  · go_wp2_with fail
                    go_meet
                    exact ⟨rfl, hwd.symm⟩
                  · cases xl
                    · exact absurd ⟨rfl, rfl⟩ HCC.out
                    · go_wp2_with fail
                      go_meet
                      exact ⟨rfl, hwd.symm⟩
                case rest =>
                  obtain ⟨rfl, hcw⟩ := hcut
                  rw [hwd] at hcw
                  subst hcw
                  clear hwd wd
                  go_wp2_with fail
                  have hnm2 : n ≤ m := by omega
                  have HV2 : Hid (V = .tuple #[.bool (coverL xs ys), .string (if coverL xs ys = true then ⟨#[]⟩ else match badL xs ys with | some ws => joinS (c0 :: ws) | none => ⟨#[]⟩), .int .i64 0]) := Lib.hid (by
                    have h3 := HD3.out; have h4 := HD4.out
                    rw [HV.out, hd, h3, h4]; simp; cases badL xs ys <;> rfl)
                  clear HV HCC HD3 HD4 HXX HXE
                  go_loopw [88] (fun vi wr => ∃ k : Nat, (vi = .int .i64 k ∧ k ≤ n) ∧ Hid (∀ j < k, ∀ p q, xs[j]? = some p → ys[j]? = some q → coversP p.kind p.text q.kind q.text = true) ∧ Below wc.heap.size wc wr) (fun vi _ => n - (intOf vi).toNat)
                  case atStart => exact ⟨0, ⟨rfl, Nat.zero_le _⟩, Lib.hid (fun j hj => absurd hj (Nat.not_lt_zero _)), Below.refl _ _⟩
                  case round =>
                    obtain ⟨k, ⟨rfl, hk⟩, HK, hbr⟩ := hrel
                    have hYr : PBox wr w2.heap.size yk yt (.slice A2 m d2) yl := Blk.keep HYD.out hbr
                    have hzr := Blk.lt hYr
                    clear x0 x1 x2 x3 y0 y1 y2 y3
                    obtain ⟨y0, y1, y2, y3, _⟩ := hYr.facts
                    by_cases hkn : k < n
                    · obtain ⟨a, ha⟩ : ∃ p, xs[k]? = some p := ⟨_, List.getElem?_eq_getElem (by have := HN.out; omega)⟩
                      obtain ⟨b, hb⟩ : ∃ p, ys[k]? = some p := ⟨_, List.getElem?_eq_getElem (by have := HM.out; omega)⟩
                      obtain ⟨hak1, hak2⟩ := HGX.out a (List.mem_of_getElem? ha)
                      obtain ⟨hbk1, hbk2⟩ := HGY.out b (List.mem_of_getElem? hb)
                      obtain ⟨pb, po, rfl, hcell⟩ := (HRX.out.keep hbr).2 (by omega)
                      obtain ⟨qb, qo, rfl, hcell2⟩ := (HRY.out.keep hbr).2 (by omega)
                      obtain ⟨e1, e2⟩ := partCells_at xs k a ha
                      obtain ⟨e3, e4⟩ := partCells_at ys k b hb
                      have hc1 : wr.cell? ⟨pb, po + k * 2, none⟩ = _ := hcell _ _ e1
                      have hc2 : wr.cell? ⟨pb, po + k * 2 + 1, none⟩ = _ := hcell _ _ e2
                      have hc3 : wr.cell? ⟨qb, qo + k * 2, none⟩ = _ := hcell2 _ _ e3
                      have hc4 : wr.cell? ⟨qb, qo + k * 2 + 1, none⟩ = _ := hcell2 _ _ e4
                      have hlast : ∀ cvk, coversP a.kind a.text b.kind b.text = cvk → (cvk = true → ∀ j < k + 1, ∀ p q, xs[j]? = some p → ys[j]? = some q → coversP p.kind p.text q.kind q.text = true) ∧ (cvk = false → badL xs ys = some ((wordsL ys).set k (withoutP b.kind b.text a.kind a.text))) := by
                        intro cvk hcv
                        constructor
                        · rintro rfl j hj p q hp hq
                          by_cases e : j = k
                          · subst e
                            rw [ha] at hp; rw [hb] at hq
                            injection hp with hp; injection hq with hq; subst hp; subst hq
                            exact hcv
                          · exact HK.out j (by omega) p q hp hq
                        · rintro rfl
                          exact badL_at k xs ys a b ha hb HK.out hcv
                      have cV := fun W => covers_any a.kind b.kind a.text b.text W (by omega) (by omega) hak1 hbk1
                      have cO := fun W => without_any b.kind a.kind b.text a.text W (by omega) (by omega) hbk1 hak1
                      have hwo : (withoutP b.kind b.text a.kind a.text).size ≤ 200000 := by unfold withoutP; split <;> exact withP_le hbk2 (by decide)
                      obtain ⟨ak, at'⟩ := a
                      obtain ⟨bk, bt⟩ := b
                      dsimp only at hc1 hc2 hc3 hc4 hlast cV cO hwo
                      have hl2 := hlast _ rfl
                      clear hlast HK
                      generalize coversP ak at' bk bt = cvk at *
                      generalize withoutP bk bt ak at' = wo at *
                      have HL2 := Lib.hid hl2
                      have HWO := Lib.hid hwo
                      have HCV := Lib.hid cV
                      have HOO := Lib.hid cO
                      have hk0 : (0 : Int) ≤ (k : Int) := by omega
                      have hkm : (k : Int) < (m : Int) := by omega
                      clear ha hb hcell hcell2 e1 e2 e3 e4 hl2 cV cO hwo
                      have g1 : (wr.alloc (.cells #[.int .i64 ak, .string at'] 119)).cell? ⟨wr.heap.size, 0, none⟩ = some (.int .i64 ak) := by simp [go_sem]
                      have g2 : (wr.alloc (.cells #[.int .i64 ak, .string at'] 119)).cell? ⟨wr.heap.size, 1, none⟩ = some (.string at') := by simp [go_sem]
                      have g3 : (wr.alloc (.cells #[.int .i64 ak, .string at'] 119)).cell? ⟨w2.heap.size, 2, none⟩ = some (.slice (some ⟨qb, qo, none⟩) m d2) := cell_keep (balloc (Below.refl _ _) _) y2
                      have g4 : (wr.alloc (.cells #[.int .i64 ak, .string at'] 119)).cell? ⟨qb, qo + k * 2, none⟩ = some (.int .i64 bk) := cell_keep (balloc (Below.refl _ _) _) hc3
                      have g5 : (wr.alloc (.cells #[.int .i64 ak, .string at'] 119)).cell? ⟨qb, qo + k * 2 + 1, none⟩ = some (.string bt) := cell_keep (balloc (Below.refl _ _) _) hc4
                      go_wp2_with fail
                      have k1 := cell_regrown g1; have k2 := cell_regrown g2; have k3 := cell_regrown g3; have k4 := cell_regrown g4; have k5 := cell_regrown g5
                      cases cvk
                      · refine wp_region_quiet_below (by kernel_rfl) (by kernel_rfl) ?_; (repeat (any_goals (first | go_big_quiet_step ((first | exact qcalls HCV.out _ _)) | quiet_step ((first | exact qcalls HCV.out _ _))))); refine wpQuiet_nil ?_; intro _ hwq; obtain ⟨⟨dq, osq⟩, hwq⟩ := hwq; subst hwq; have hb9 := below_regrown (wr.alloc (.cells #[.int .i64 ak, .string at'] 119)) dq osq; generalize grow (redrawn (wr.alloc (.cells #[.int .i64 ak, .string at'] 119)) dq) osq = w9 at *
                        have hT9 : Blk w9 wr.heap.size 119 #[.int .i64 ak, .string at'] (0, 0) := Blk.keep (World.alloc_heap_new wr (.cells #[.int .i64 ak, .string at'] 119)) hb9
                        have hwr9 : Below wr.heap.size wr w9 := blater _ hb9
                        have hY9 : PBox w9 w2.heap.size yk yt (.slice (some ⟨qb, qo, none⟩) m d2) yl := Blk.keep hYr hwr9
                        have hown9 := ownsRow_keep (ownsRow_keep HOD.out hbr) hwr9
                        have hR9 := Reads.of_own hown9
                        have hqlt : qb < W2.heap.size := HQB.out (by omega) _ rfl
                        obtain ⟨g, cap, hv, hg, hh, hown9'⟩ : ∃ g cap, Value.slice A3 m c3 = .slice (some ⟨g, 0, none⟩) m cap ∧ W2.heap.size ≤ g ∧ ∃ cur : Array Value, w9.heap[g]? = some (.cells cur 9) := by
                          rcases hown9.2 with ⟨h, _⟩ | ⟨g, cap, cur, he, hb, hh, _⟩
                          · omega
                          · exact ⟨g, cap, he, hb, cur, hh⟩
                        injection hv with hv1 hv2 hv3
                        subst hv1
                        have hB9 : Blk w9 g 9 hh (0, 0) := hown9'
                        have hbw9 : Below w.heap.size w w9 := bstep (bstep hbwd hbr) hwr9
                        obtain ⟨u, hu⟩ : ∃ u, ((wordsL ys).map Value.string)[k]? = some u := ⟨_, List.getElem?_eq_getElem (by have := hR9.1; omega)⟩
                        obtain ⟨b', o', he', hc'⟩ := hR9.2 (by omega)
                        injection he' with he'; injection he' with he1 he2 _; subst he1; subst he2
                        have f6 : w9.cell? ⟨g, k, none⟩ = some u := by have := hc' k u hu; rwa [Nat.zero_add] at this
                        have f7 : w9.frozen? ⟨g, k, none⟩ = false := hB9.free0 k
                        have f1 : w9.cell? ⟨wr.heap.size, 0, none⟩ = some (.int .i64 ak) := hT9.cell 0
                        have f2 : w9.cell? ⟨wr.heap.size, 1, none⟩ = some (.string at') := hT9.cell 1
                        have f3 : w9.cell? ⟨w2.heap.size, 2, none⟩ = some (.slice (some ⟨qb, qo, none⟩) m d2) := hY9.facts.2.2.1
                        have f4 : w9.cell? ⟨qb, qo + k * 2, none⟩ = some (.int .i64 bk) := cell_keep hwr9 hc3
                        have f5 : w9.cell? ⟨qb, qo + k * 2 + 1, none⟩ = some (.string bt) := cell_keep hwr9 hc4
                        have hn1 : g ≠ wr.heap.size := by
                          intro e; subst e
                          have h1 := (hwr9.block)
                          have hX := hT9
                          unfold Blk at hX hB9
                          rw [hX] at hB9
                          injection hB9 with hB9; injection hB9 with _ hB9 _
                          exact absurd hB9 (by decide)
                        have hn2 : g ≠ w2.heap.size := by omega
                        have hn3 : g ≠ qb := by omega
                        have hbad2 := HL2.out.2 rfl
                        have hcf : coverL xs ys = false := coverL_false xs ys (by rw [hbad2]; simp)
                        have hVe : V = .tuple #[.bool false, .string (joinS (c0 :: (wordsL ys).set k wo)), .int .i64 0] := by rw [HV2.out, hcf, hbad2]; rfl
                        have hz2 : ∀ x ∈ (wordsL ys).set k wo, x.size ≤ 200000 := by
                          intro x hx
                          rcases List.mem_or_eq_of_mem_set hx with hx | hx
                          · exact HWS.out x hx
                          · rw [hx]; exact HWO.out
                        have HXG := Lib.hid (fun A c W h => HX2.out A m c ((wordsL ys).set k wo) W h (by omega) hz2)
                        have HR9 := Lib.hid hR9
                        have hkm' : k < m := by omega
                        have hset : ((wordsL ys).map Value.string).set k (.string wo) = ((wordsL ys).set k wo).map Value.string := by simp [List.map_set]
                        have HSET := Lib.hid hset
                        clear hbad2 hcf HV2 HL2 hz2 HX2 hR9 hset hu hc' hown9 hown9' hB9 hT9 hY9 hYr y0 y1 y2 y3 g1 g2 g3 g4 g5 k1 k2 k3 k4 k5 hc1 hc2 hc3 hc4
                        subst hVe
                        go_upto_region 18 with fail
                        go_region_held3 (fun w' => w'.cell? ⟨wr.heap.size, 0, none⟩ = some (.int .i64 ak) ∧ w'.cell? ⟨wr.heap.size, 1, none⟩ = some (.string at') ∧ w'.cell? ⟨w2.heap.size, 2, none⟩ = some (.slice (some ⟨qb, qo, none⟩) m d2) ∧ w'.cell? ⟨qb, qo + k * 2, none⟩ = some (.int .i64 bk) ∧ w'.cell? ⟨qb, qo + k * 2 + 1, none⟩ = some (.string bt) ∧ w'.cell? ⟨g, k, none⟩ = some (rd w' ⟨g, k, none⟩) ∧ w'.frozen? ⟨g, k, none⟩ = false ∧ Below w.heap.size w w')
                          (first | exact ⟨f1, f2, f3, f4, f5, rd_of f6, f7, Below.drew hbw9⟩ | (go_split_ands; exact ⟨cell_keep hb5 ‹_›, cell_keep hb5 ‹_›, cell_keep hb5 ‹_›, cell_keep hb5 ‹_›, cell_keep hb5 ‹_›, rd_keep hb5 ‹_›, frozen_keep hb5 (cell_lt ‹_›) ‹_›, bstep ‹_› hb5⟩) | (go_split_ands; refine ⟨(World.cell?_setCell_other _ _ _ _ (by simp [hn1])).trans ‹_›, (World.cell?_setCell_other _ _ _ _ (by simp [hn1])).trans ‹_›, (World.cell?_setCell_other _ _ _ _ (by simp [hn2])).trans ‹_›, (World.cell?_setCell_other _ _ _ _ (by simp [hn3])).trans ‹_›, (World.cell?_setCell_other _ _ _ _ (by simp [hn3])).trans ‹_›, rd_set ‹_›, by simp [go_sem, *], Below.setCell ‹_› (by simp; omega) _⟩))
                          ((go_at_call 102; refine (HOO.out _).mono ?_; rintro e w5 ⟨rfl, hb5⟩))
                        have hb59 : Below w9.heap.size w9 w5 := by first | exact hb5 | exact undrew hb5
                        have hRz : Reads (w5.setCell ⟨g, k, none⟩ (.string wo)) 1 (some ⟨g, 0, none⟩) m (((wordsL ys).set k wo).map Value.string) := by
                          have h := (HR9.out.keep hb59).put hkm' (.string wo)
                          rw [Nat.zero_add, HSET.out] at h
                          exact h
                        have hbz : Below w.heap.size w (w5.setCell ⟨g, k, none⟩ (.string wo)) := (bstep hbw9 hb59).setCell (by simp; omega) _
                        go_wp2_with (go_at_call 101; refine (HXG.out _ _ _ hRz).mono ?_; rintro e w7 ⟨rfl, hb7⟩)
                        go_ret3
                        exact ⟨rfl, by (repeat (first | exact .refl _ _ | assumption | refine .drew ?_ | refine balloc ?_ _ | refine bdrewN ?_ _ | refine .setCell ?_ (by simp <;> omega) _ | refine bstep ?_ (by assumption)))⟩
                      · refine wp_region_quiet_below (by kernel_rfl) (by kernel_rfl) ?_; (repeat (any_goals (first | go_big_quiet_step ((first | exact qcalls HCV.out _ _)) | quiet_step ((first | exact qcalls HCV.out _ _))))); refine wpQuiet_nil ?_; intro _ hwq; obtain ⟨⟨dq, osq⟩, hwq⟩ := hwq; subst hwq; have hb9 := below_regrown (wr.alloc (.cells #[.int .i64 ak, .string at'] 119)) dq osq; generalize grow (redrawn (wr.alloc (.cells #[.int .i64 ak, .string at'] 119)) dq) osq = w9 at *
                        go_wp2_with fail
                        exact ⟨⟨k + 1, ⟨by go_num, by omega⟩, Lib.hid (HL2.out.1 rfl), bstep (balloc hbr _) hb9⟩, by simp [intOf]; omega⟩
                    · obtain rfl : k = n := by omega
                      have hall : coverL xs ys = true := coverL_all xs ys (by have h1 := HN.out; have h2 := HM.out; omega) (by rw [← HN.out]; exact HK.out)
                      have hVe : V = .tuple #[.bool true, .string ⟨#[]⟩, .int .i64 0] := by rw [HV2.out, hall]; rfl
                      clear HV2 HK hall
                      subst hVe
                      go_wp2_with fail
                      go_ret3
                      exact ⟨rfl, by (repeat (first | exact .refl _ _ | assumption | refine .drew ?_ | refine balloc ?_ _ | refine bdrewN ?_ _ | refine .setCell ?_ (by simp <;> omega) _ | refine bstep ?_ (by assumption)))⟩
end Go.Proofs.YtocgkpdolgnbgaaGreatDoor
namespace Go.Proofs.YtocgkpdolgnbgaaGreatDoor
open Go.RowKit Go.Sort
set_option linter.unusedVariables false
set_option linter.unusedSimpArgs false
set_option maxRecDepth 100000
def outP (r : Option ByteArray) : Value := .tuple #[.string (r.getD ⟨#[]⟩), .bool r.isSome]
def outPI (r : Option Int) : Value := .tuple #[.int .i64 (r.getD 0), .bool r.isSome]
theorem outV_eq (r : Option ByteArray) : outV r = outP r := by cases r <;> rfl
theorem outVI_eq (r : Option Int) : outVI r = outPI r := by cases r <;> rfl
theorem outCl_any (A : Option Addr) (na ca : Nat) (B : Option Addr) (nb cb : Nat) (xs ys : List ByteArray) (w : World) (hA : Reads w 1 A na (xs.map .string)) (hB : Reads w 1 B nb (ys.map .string)) (h1 : na ≤ 1000000) (h2 : nb ≤ 1000000) :
    Calls Tryz.prog 42 #[.slice A na ca, .slice B nb cb, .func (.func 43) #[] #[]] w (Ret w (outP (outL xs ys allClients))) := by
  have hl : xs.length = na := by have := hA.1; simp at this; omega
  rw [← outV_eq]
  unfold outL
  rcases Nat.eq_zero_or_pos na with h0 | h0
  · subst h0
    obtain rfl : xs = [] := List.eq_nil_of_length_eq_zero hl
    exact outsideS_none A ca B nb cb ys allClients 43 w (enters_of Tryz.func43 (by kernel_rfl) rfl) clients_iter hB (by omega)
  · have he : xs.isEmpty = false := by cases xs; simp at hl; omega; rfl
    rw [he]
    exact outsideS_some A na ca B nb cb ys xs _ w hA hB h0 (by omega) (by omega)
theorem outCo_any (A : Option Addr) (na ca : Nat) (B : Option Addr) (nb cb : Nat) (xs ys : List ByteArray) (w : World) (hA : Reads w 1 A na (xs.map .string)) (hB : Reads w 1 B nb (ys.map .string)) (h1 : na ≤ 1000000) (h2 : nb ≤ 1000000) :
    Calls Tryz.prog 42 #[.slice A na ca, .slice B nb cb, .func (.func 44) #[] #[]] w (Ret w (outP (outL xs ys allCountries))) := by
  have hl : xs.length = na := by have := hA.1; simp at this; omega
  rw [← outV_eq]
  unfold outL
  rcases Nat.eq_zero_or_pos na with h0 | h0
  · subst h0
    obtain rfl : xs = [] := List.eq_nil_of_length_eq_zero hl
    exact outsideS_none A ca B nb cb ys allCountries 44 w (enters_of Tryz.func44 (by kernel_rfl) rfl) countries_iter hB (by omega)
  · have he : xs.isEmpty = false := by cases xs; simp at hl; omega; rfl
    rw [he]
    exact outsideS_some A na ca B nb cb ys xs _ w hA hB h0 (by omega) (by omega)
theorem outSi_any (A : Option Addr) (na ca : Nat) (B : Option Addr) (nb cb : Nat) (xs ys : List Int) (w : World) (hA : Reads w 1 A na (xs.map (.int .i64))) (hB : Reads w 1 B nb (ys.map (.int .i64))) (h1 : na ≤ 1000000) (h2 : nb ≤ 1000000) :
    Calls Tryz.prog 45 #[.slice A na ca, .slice B nb cb, .func (.func 46) #[] #[]] w (Ret w (outPI (outL xs ys allSites))) := by
  have hl : xs.length = na := by have := hA.1; simp at this; omega
  rw [← outVI_eq]
  unfold outL
  rcases Nat.eq_zero_or_pos na with h0 | h0
  · subst h0
    obtain rfl : xs = [] := List.eq_nil_of_length_eq_zero hl
    exact outsideI_none A ca B nb cb ys allSites 46 w (enters_of Tryz.func46 (by kernel_rfl) rfl) sites_iter hB (by omega)
  · have he : xs.isEmpty = false := by cases xs; simp at hl; omega; rfl
    rw [he]
    exact outsideI_some A na ca B nb cb ys xs _ w hA hB h0 (by omega) (by omega)
theorem box3' (w : World) (a b c : Obj) : (((w.alloc a).alloc b).alloc c).heap[w.heap.size]? = some a ∧ (((w.alloc a).alloc b).alloc c).heap[w.heap.size + 1]? = some b ∧ (((w.alloc a).alloc b).alloc c).heap[w.heap.size + 1 + 1]? = some c := by
  obtain ⟨h1, h2⟩ := two_box w a b
  refine ⟨(Below.heap_alloc _ _ _ (by simp; omega)).trans h1, (Below.heap_alloc _ _ _ (by simp)).trans h2, ?_⟩
  have := World.alloc_heap_new ((w.alloc a).alloc b) c
  simpa using this
theorem cover_shape (q p : ByteArray) (hq : patOk q = true) (hp : patOk p = true) : ∃ x y, compileB (patT q) = some x ∧ compileB (patT p) = some y ∧ coversV (compileB (patT q)) (compileB (patT p)) = .tuple #[.bool (coverB x y), .string (if coverB x y then ⟨#[]⟩ else coverW x y), .int .i64 0] := by
  obtain ⟨x, hx, _⟩ := patT_some hq
  obtain ⟨y, hy, _⟩ := patT_some hp
  exact ⟨x, y, hx, hy, by rw [hx, hy]; rfl⟩
theorem Blk.far {w : World} {g : Nat} {t : TypeId} {cs : Array Value} {fr : Nat × Nat} (h : Blk w g t cs fr) (p : Addr) (u : Value) (hp : g ≠ p.block) : Blk (w.setCell p u) g t cs fr := (Below.heap_setCell w p u g hp).trans h
theorem ABox.set0 {w : World} {g : Nat} {ad ad2 cl co : ByteArray} {si lo hi : Int} (h : ABox w g ad cl co si lo hi) : ABox (w.setCell ⟨g, 0, none⟩ (.string ad2)) g ad2 cl co si lo hi := Blk.set_ h 0 (.string ad2)
theorem ABox.set45 {w : World} {g : Nat} {ad cl co : ByteArray} {si lo hi lo2 hi2 : Int} (h : ABox w g ad cl co si lo hi) : ABox ((w.setCell ⟨g, 4, none⟩ (.int .i64 lo2)).setCell ⟨g, 5, none⟩ (.int .i64 hi2)) g ad cl co si lo2 hi2 := Blk.set_ (Blk.set_ h 4 (.int .i64 lo2)) 5 (.int .i64 hi2)
theorem valid_ok {c : CondV} (h : validC c = true) : patOk c.pat = true := ((valid_iff c).1 h).pat
theorem impR_true {a b : CondV} (h : a.till ≤ a.fr) : impR a b = (true, noAsk) := by unfold impR; rw [if_pos h]
theorem impR_from {a b : CondV} (h : ¬ a.till ≤ a.fr) (h1 : a.fr < b.fr) : impR a b = (false, sampleC a) := by unfold impR; rw [if_neg h, if_pos h1]
theorem impR_to {a b : CondV} (h : ¬ a.till ≤ a.fr) (h1 : ¬ a.fr < b.fr) (h2 : b.till < a.till) : impR a b = (false, { sampleC a with lo := a.till - 1, hi := a.till - 1 }) := by unfold impR; rw [if_neg h, if_neg h1, if_pos h2]
theorem impR_else {a b : CondV} (h : ¬ a.till ≤ a.fr) (h1 : ¬ a.fr < b.fr) (h2 : ¬ b.till < a.till) {x y : Pat} (hx : compileB (patT b.pat) = some x) (hy : compileB (patT a.pat) = some y) :
    impR a b = if coverB x y then (match outL a.cl b.cl allClients, outL a.co b.co allCountries, outL a.si b.si allSites with
        | some s, _, _ => (false, { sampleC a with client := s })
        | none, some s, _ => (false, { sampleC a with country := s })
        | none, none, some n => (false, { sampleC a with site := n })
        | none, none, none => (true, noAsk))
      else (false, { sampleC a with addr := coverW x y }) := by
  unfold impR
  rw [if_neg h, if_neg h1, if_neg h2, hx, hy]
  rfl
set_option maxHeartbeats 8000000 in
theorem imp_any (a b : CondV) (ma mb : CondMem) (w : World) (hRa : CondReads w a ma) (hRb : CondReads w b mb) (hfa : CondFits a) (hfb : CondFits b) (hva : validC a = true) (hvb : validC b = true) (hE : Env w) :
    Calls Tryz.prog 13 #[CondMem.val a ma, CondMem.val b mb] w (Ret w (impV ((impR a b).1, (impR a b).2, 0))) := by
  have c1 := fun W (hb : Below w.heap.size w W) => hva ▸ condValid_any a ma W (hRa.keep hb) hfa.p hfa.cl hfa.co hfa.n1 hfa.n2 hfa.n3 (hE.keep hb)
  have c2 := fun W (hb : Below w.heap.size w W) => hvb ▸ condValid_any b mb W (hRb.keep hb) hfb.p hfb.cl hfb.co hfb.n1 hfb.n2 hfb.n3 (hE.keep hb)
  have c3 := fun W (hb : Below w.heap.size w W) => sample_any a ma W (hRa.keep hb) hfa (hE.keep hb)
  have c4b := fun W => pattern_any b mb W
  have c4a := fun W => pattern_any a ma W
  obtain ⟨x, y, hx, hy, hcs⟩ := cover_shape b.pat a.pat (valid_ok hvb) (valid_ok hva)
  have c5 := fun W (hb : Below w.heap.size w W) => hcs ▸ covers_any2 (patT b.pat) (patT a.pat) W (patT_size hfb.p) (patT_size hfa.p) (hE.keep hb)
  have c6 := fun W (hb : Below w.heap.size w W) => outCl_any ma.A a.cl.length ma.ca mb.A b.cl.length mb.ca a.cl b.cl W (hRa.cl.keep hb) (hRb.cl.keep hb) hfa.n1 hfb.n1
  have c7 := fun W (hb : Below w.heap.size w W) => outCo_any ma.B a.co.length ma.cb mb.B b.co.length mb.cb a.co b.co W (hRa.co.keep hb) (hRb.co.keep hb) hfa.n2 hfb.n2
  have c8 := fun W (hb : Below w.heap.size w W) => outSi_any ma.S a.si.length ma.cs mb.S b.si.length mb.cs a.si b.si W (hRa.si.keep hb) (hRb.si.keep hb) hfa.n3 hfb.n3
  have e1 := @impR_true a b
  have e2 := @impR_from a b
  have e3 := @impR_to a b
  have e4 := fun h h1 h2 => @impR_else a b h h1 h2 x y hx hy
  have ht := ((valid_iff a).1 hva).to0
  have ht2 := ((valid_iff a).1 hva).to1
  obtain ⟨V, hV⟩ : ∃ V, V = impV ((impR a b).1, (impR a b).2, 0) := ⟨_, rfl⟩
  rw [← hV]
  generalize impR a b = ir at *
  generalize sampleC a = s at *
  generalize outL a.cl b.cl allClients = o1 at *
  generalize outL a.co b.co allCountries = o2 at *
  generalize outL a.si b.si allSites = o3 at *
  generalize patT a.pat = pta at *
  generalize patT b.pat = ptb at *
  generalize hwx : (if coverB x y then (⟨#[]⟩ : ByteArray) else coverW x y) = wx at *
  obtain ⟨cv, hcv⟩ : ∃ cv, cv = coverB x y := ⟨_, rfl⟩
  rw [← hcv] at c5 e4 hwx
  obtain ⟨g1, hg1⟩ : ∃ g, g = o1.getD ⟨#[]⟩ := ⟨_, rfl⟩
  obtain ⟨g2, hg2⟩ : ∃ g, g = o2.getD ⟨#[]⟩ := ⟨_, rfl⟩
  obtain ⟨g3, hg3⟩ : ∃ g, g = o3.getD 0 := ⟨_, rfl⟩
  obtain ⟨i1, hi1⟩ : ∃ i, i = o1.isSome := ⟨_, rfl⟩
  obtain ⟨i2, hi2⟩ : ∃ i, i = o2.isSome := ⟨_, rfl⟩
  obtain ⟨i3, hi3⟩ : ∃ i, i = o3.isSome := ⟨_, rfl⟩
  unfold outP at c6 c7
  unfold outPI at c8
  rw [← hg1, ← hi1] at c6
  rw [← hg2, ← hi2] at c7
  rw [← hg3, ← hi3] at c8
  have hO1 : o1 = if i1 = true then some g1 else none := by rw [hg1, hi1]; cases o1 <;> rfl
  have hO2 : o2 = if i2 = true then some g2 else none := by rw [hg2, hi2]; cases o2 <;> rfl
  have hO3 : o3 = if i3 = true then some g3 else none := by rw [hg3, hi3]; cases o3 <;> rfl
  obtain ⟨fa, ta, pa, cla, coa, sia, ua⟩ := a
  obtain ⟨fb, tb, pb, clb, cob, sib, ub⟩ := b
  obtain ⟨A, ca, B, cb, S, cs⟩ := ma
  obtain ⟨A', ca', B', cb', S', cs'⟩ := mb
  obtain ⟨ad, kl, ko, st, lo, hi⟩ := s
  unfold CondMem.val at c1 c2 c3 c4a c4b ⊢
  unfold AskV.val at c3
  dsimp only at c1 c2 c3 c4a c4b c6 c7 c8 e1 e2 e3 e4 ht ht2 ⊢
  have C1 := Lib.hid c1; have C2 := Lib.hid c2; have C3 := Lib.hid c3; have C4A := Lib.hid c4a; have C4B := Lib.hid c4b; have C5 := Lib.hid c5; have C6 := Lib.hid c6; have C7 := Lib.hid c7; have C8 := Lib.hid c8
  have E1 := Lib.hid e1; have E2 := Lib.hid e2; have E3 := Lib.hid e3; have E4 := Lib.hid e4; have O1 := Lib.hid hO1; have O2 := Lib.hid hO2; have O3 := Lib.hid hO3; have HWX := Lib.hid hwx; have HV := Lib.hid hV
  clear c1 c2 c3 c4a c4b c5 c6 c7 c8 e1 e2 e3 e4 hO1 hO2 hO3 hg1 hg2 hg3 hi1 hi2 hi3 hRa hRb hfa hfb hva hvb hE hcs hx hy hwx hV hcv
  by_cases t1 : ta ≤ fa
  · obtain rfl : V = .tuple #[.bool true, .agg #[.string ⟨#[]⟩, .string ⟨#[]⟩, .string ⟨#[]⟩, .int .i64 0, .int .i64 0, .int .i64 0], .int .i64 0] := by rw [HV.out, E1.out t1]; rfl
    have d1 : decide (ta ≤ fa) = true := decide_eq_true t1
    clear HV E1 E2 E3 E4
    go_enter Tryz.func13, Tryz.ntmps13
    go_wp2_with (first | (go_at_call 19; refine (C1.out _ (by (repeat (first | exact .refl _ _ | assumption | refine .drew ?_ | refine balloc ?_ _ | refine bdrewN ?_ _ | refine .setCell ?_ (by simp <;> omega) _ | refine bstep ?_ (by assumption))))).mono ?_; rintro e w2 ⟨rfl, hb2⟩; have hbw : Below w.heap.size w w2 := (by (repeat (first | exact .refl _ _ | assumption | refine .drew ?_ | refine balloc ?_ _ | refine bdrewN ?_ _ | refine .setCell ?_ (by simp <;> omega) _ | refine bstep ?_ (by assumption)))); clear C1; (have hX2 : CBox w2 w.heap.size fa ta pa A cla.length ca B coa.length cb S sia.length cs ua := (by first | exact Blk.keep hX2 hb2 | exact Blk.keep (box3' _ _ _ _).1 hb2)); (have hY2 : CBox w2 (w.heap.size + 1) fb tb pb A' clb.length ca' B' cob.length cb' S' sib.length cs' ub := (by first | exact Blk.keep hY2 hb2 | exact Blk.keep (box3' _ _ _ _).2.1 hb2)); (have hZ2 : ABox w2 (w.heap.size + 1 + 1) ⟨#[]⟩ ⟨#[]⟩ ⟨#[]⟩ 0 0 0 := (by first | exact Blk.keep hZ2 hb2 | exact Blk.keep (box3' _ _ _ _).2.2 hb2)); (try clear x0 x1 x2 x3 x4 x5 x6 y0 y1 y2 y3 y4 y5 y6); (obtain ⟨x0, x1, x2, x3, x4, x5, x6⟩ := hX2.facts; obtain ⟨y0, y1, y2, y3, y4, y5, y6⟩ := hY2.facts)) | (go_at_call 19; refine (C2.out _ hbw).mono ?_; rintro e w2 ⟨rfl, hb2⟩; replace hbw := bstep hbw hb2; clear C2; (have hX2 : CBox w2 w.heap.size fa ta pa A cla.length ca B coa.length cb S sia.length cs ua := (by first | exact Blk.keep hX2 hb2 | exact Blk.keep (box3' _ _ _ _).1 hb2)); (have hY2 : CBox w2 (w.heap.size + 1) fb tb pb A' clb.length ca' B' cob.length cb' S' sib.length cs' ub := (by first | exact Blk.keep hY2 hb2 | exact Blk.keep (box3' _ _ _ _).2.1 hb2)); (have hZ2 : ABox w2 (w.heap.size + 1 + 1) ⟨#[]⟩ ⟨#[]⟩ ⟨#[]⟩ 0 0 0 := (by first | exact Blk.keep hZ2 hb2 | exact Blk.keep (box3' _ _ _ _).2.2 hb2)); (try clear x0 x1 x2 x3 x4 x5 x6 y0 y1 y2 y3 y4 y5 y6); (obtain ⟨x0, x1, x2, x3, x4, x5, x6⟩ := hX2.facts; obtain ⟨y0, y1, y2, y3, y4, y5, y6⟩ := hY2.facts); (obtain ⟨z0, z1, z2, z3, z4, z5⟩ := hZ2.facts; have q0 := hZ2.free0 0; have q1 := hZ2.free0 1; have q2 := hZ2.free0 2; have q3 := hZ2.free0 3; have q4 := hZ2.free0 4; have q5 := hZ2.free0 5)))
    obtain ⟨p0, p1, p2, p3, p4, p5⟩ := (hZ2.put ⟨#[]⟩ ⟨#[]⟩ ⟨#[]⟩ 0 0 0).facts
    clear x0 x1 x2 x3 x4 x5 x6 y0 y1 y2 y3 y4 y5 y6 z0 z1 z2 z3 z4 z5 q0 q1 q2 q3 q4 q5
    exact bodyPost_ret (v := .tuple #[.bool true, .agg #[.string ⟨#[]⟩, .string ⟨#[]⟩, .string ⟨#[]⟩, .int .i64 0, .int .i64 0, .int .i64 0], .int .i64 0]) (by simp only [results, Tryz.results13]; simp [go_sem, p0, p1, p2, p3, p4, p5]) rfl ⟨rfl, below_put6 hbw (by omega) _ _ _ _ _ _⟩
  have d1 : decide (ta ≤ fa) = false := decide_eq_false t1
  go_enter Tryz.func13, Tryz.ntmps13
  go_upto_region 6 with (first | (go_at_call 19; refine (C1.out _ (by (repeat (first | exact .refl _ _ | assumption | refine .drew ?_ | refine balloc ?_ _ | refine bdrewN ?_ _ | refine .setCell ?_ (by simp <;> omega) _ | refine bstep ?_ (by assumption))))).mono ?_; rintro e w2 ⟨rfl, hb2⟩; have hbw : Below w.heap.size w w2 := (by (repeat (first | exact .refl _ _ | assumption | refine .drew ?_ | refine balloc ?_ _ | refine bdrewN ?_ _ | refine .setCell ?_ (by simp <;> omega) _ | refine bstep ?_ (by assumption)))); clear C1; (have hX2 : CBox w2 w.heap.size fa ta pa A cla.length ca B coa.length cb S sia.length cs ua := (by first | exact Blk.keep hX2 hb2 | exact Blk.keep (box3' _ _ _ _).1 hb2)); (have hY2 : CBox w2 (w.heap.size + 1) fb tb pb A' clb.length ca' B' cob.length cb' S' sib.length cs' ub := (by first | exact Blk.keep hY2 hb2 | exact Blk.keep (box3' _ _ _ _).2.1 hb2)); (have hZ2 : ABox w2 (w.heap.size + 1 + 1) ⟨#[]⟩ ⟨#[]⟩ ⟨#[]⟩ 0 0 0 := (by first | exact Blk.keep hZ2 hb2 | exact Blk.keep (box3' _ _ _ _).2.2 hb2)); (try clear x0 x1 x2 x3 x4 x5 x6 y0 y1 y2 y3 y4 y5 y6); (obtain ⟨x0, x1, x2, x3, x4, x5, x6⟩ := hX2.facts; obtain ⟨y0, y1, y2, y3, y4, y5, y6⟩ := hY2.facts)) | (go_at_call 19; refine (C2.out _ hbw).mono ?_; rintro e w2 ⟨rfl, hb2⟩; replace hbw := bstep hbw hb2; clear C2; (have hX2 : CBox w2 w.heap.size fa ta pa A cla.length ca B coa.length cb S sia.length cs ua := (by first | exact Blk.keep hX2 hb2 | exact Blk.keep (box3' _ _ _ _).1 hb2)); (have hY2 : CBox w2 (w.heap.size + 1) fb tb pb A' clb.length ca' B' cob.length cb' S' sib.length cs' ub := (by first | exact Blk.keep hY2 hb2 | exact Blk.keep (box3' _ _ _ _).2.1 hb2)); (have hZ2 : ABox w2 (w.heap.size + 1 + 1) ⟨#[]⟩ ⟨#[]⟩ ⟨#[]⟩ 0 0 0 := (by first | exact Blk.keep hZ2 hb2 | exact Blk.keep (box3' _ _ _ _).2.2 hb2)); (try clear x0 x1 x2 x3 x4 x5 x6 y0 y1 y2 y3 y4 y5 y6); (obtain ⟨x0, x1, x2, x3, x4, x5, x6⟩ := hX2.facts; obtain ⟨y0, y1, y2, y3, y4, y5, y6⟩ := hY2.facts)) | (go_at_call 39; refine (C3.out _ hbw).mono ?_; rintro e w2 ⟨rfl, hb2⟩; replace hbw := bstep hbw hb2; clear C3; (have hX2 : CBox w2 w.heap.size fa ta pa A cla.length ca B coa.length cb S sia.length cs ua := (by first | exact Blk.keep hX2 hb2 | exact Blk.keep (box3' _ _ _ _).1 hb2)); (have hY2 : CBox w2 (w.heap.size + 1) fb tb pb A' clb.length ca' B' cob.length cb' S' sib.length cs' ub := (by first | exact Blk.keep hY2 hb2 | exact Blk.keep (box3' _ _ _ _).2.1 hb2)); (have hZ2 : ABox w2 (w.heap.size + 1 + 1) ⟨#[]⟩ ⟨#[]⟩ ⟨#[]⟩ 0 0 0 := (by first | exact Blk.keep hZ2 hb2 | exact Blk.keep (box3' _ _ _ _).2.2 hb2)); (try clear x0 x1 x2 x3 x4 x5 x6 y0 y1 y2 y3 y4 y5 y6); (obtain ⟨x0, x1, x2, x3, x4, x5, x6⟩ := hX2.facts; obtain ⟨y0, y1, y2, y3, y4, y5, y6⟩ := hY2.facts)))
  obtain ⟨gq, hgq⟩ : ∃ gq, gq = w2.heap.size := ⟨_, rfl⟩
  obtain ⟨W6, hW6⟩ : ∃ W6, W6 = w2.alloc (.cells #[.string ad, .string kl, .string ko, .int .i64 st, .int .i64 lo, .int .i64 hi] 34) := ⟨_, rfl⟩
  have hb6 : Below w2.heap.size w2 W6 := by rw [hW6]; exact balloc (Below.refl _ _) _
  have hQ6 : ABox W6 gq ad kl ko st lo hi := by rw [hW6, hgq]; exact World.alloc_heap_new _ _
  have hX6 := Blk.keep hX2 hb6
  have hY6 := Blk.keep hY2 hb6
  have hZ6 := Blk.keep hZ2 hb6
  have hbw6 := bstep hbw hb6
  have hgz : w.heap.size + 1 + 1 < gq := by rw [hgq]; exact Blk.lt hZ2
  rw [← hW6, ← hgq]
  clear hX2 hY2 hZ2 hbw hW6 x0 x1 x2 x3 x4 x5 x6 y0 y1 y2 y3 y4 y5 y6 hb2
  have HX6 : Hid (CBox W6 w.heap.size fa ta pa A cla.length ca B coa.length cb S sia.length cs ua) := Lib.hid hX6
  have HY6 : Hid (CBox W6 (w.heap.size + 1) fb tb pb A' clb.length ca' B' cob.length cb' S' sib.length cs' ub) := Lib.hid hY6
  have HZ6 : Hid (ABox W6 (w.heap.size + 1 + 1) ⟨#[]⟩ ⟨#[]⟩ ⟨#[]⟩ 0 0 0) := Lib.hid hZ6
  have HQ6 := Lib.hid hQ6
  have HB6 := Lib.hid hbw6
  have K5 := Lib.hid (fun W (hb : Below W6.heap.size W6 W) => C5.out W (bstep hbw6 hb))
  clear hX6 hY6 hZ6 hQ6 hbw6 hb6 hgq C5
  obtain ⟨x0, x1, x2, x3, x4, x5, x6⟩ := HX6.out.facts
  obtain ⟨y0, y1, y2, y3, y4, y5, y6⟩ := HY6.out.facts
  have r0 := cell_regrown x0; have r1 := cell_regrown x1; have r2 := cell_regrown x2; have r3 := cell_regrown x3; have r4 := cell_regrown x4; have r5 := cell_regrown x5; have r6 := cell_regrown x6
  have s0 := cell_regrown y0; have s1 := cell_regrown y1; have s2 := cell_regrown y2; have s3 := cell_regrown y3; have s4 := cell_regrown y4; have s5 := cell_regrown y5; have s6 := cell_regrown y6
  refine wp_region_quiet_below (by kernel_rfl) (by kernel_rfl) ?_; (repeat (any_goals (first | go_big_quiet_step ((first | (with_reducible exact qcalls C4B.out _ _) | (with_reducible exact qcalls C4A.out _ _) | (with_reducible exact qcalls2 K5.out _ _))) | quiet_step ((first | (with_reducible exact qcalls C4B.out _ _) | (with_reducible exact qcalls C4A.out _ _) | (with_reducible exact qcalls2 K5.out _ _)))))); refine wpQuiet_nil ?_; intro _ hwq; obtain ⟨⟨dq, osq⟩, hwq⟩ := hwq; subst hwq; have hbq := below_regrown (W6) dq osq; generalize grow (redrawn (W6) dq) osq = wq at *
  clear x0 x1 x2 x3 x4 x5 x6 y0 y1 y2 y3 y4 y5 y6 r0 r1 r2 r3 r4 r5 r6 s0 s1 s2 s3 s4 s5 s6 K5 C4A C4B
  have hX2 : CBox wq w.heap.size fa ta pa A cla.length ca B coa.length cb S sia.length cs ua := Blk.keep HX6.out hbq
  have hY2 : CBox wq (w.heap.size + 1) fb tb pb A' clb.length ca' B' cob.length cb' S' sib.length cs' ub := Blk.keep HY6.out hbq
  have hZ2 : ABox wq (w.heap.size + 1 + 1) ⟨#[]⟩ ⟨#[]⟩ ⟨#[]⟩ 0 0 0 := Blk.keep HZ6.out hbq
  have hQ2 : ABox wq gq ad kl ko st lo hi := Blk.keep HQ6.out hbq
  have hbw := bstep HB6.out hbq
  clear HX6 HY6 HZ6 HQ6 HB6 hbq
  (obtain ⟨x0, x1, x2, x3, x4, x5, x6⟩ := hX2.facts; obtain ⟨y0, y1, y2, y3, y4, y5, y6⟩ := hY2.facts)
  go_upto_region 11 with (first | (go_at_call 42; refine (C6.out _ hbw).mono ?_; rintro e w2 ⟨rfl, hb2⟩; replace hbw := bstep hbw hb2; clear C6; have hQ2 : ABox w2 gq ad kl ko st lo hi := Blk.keep hQ2 hb2; (have hX2 : CBox w2 w.heap.size fa ta pa A cla.length ca B coa.length cb S sia.length cs ua := (by first | exact Blk.keep hX2 hb2 | exact Blk.keep (box3' _ _ _ _).1 hb2)); (have hY2 : CBox w2 (w.heap.size + 1) fb tb pb A' clb.length ca' B' cob.length cb' S' sib.length cs' ub := (by first | exact Blk.keep hY2 hb2 | exact Blk.keep (box3' _ _ _ _).2.1 hb2)); (have hZ2 : ABox w2 (w.heap.size + 1 + 1) ⟨#[]⟩ ⟨#[]⟩ ⟨#[]⟩ 0 0 0 := (by first | exact Blk.keep hZ2 hb2 | exact Blk.keep (box3' _ _ _ _).2.2 hb2)); (try clear x0 x1 x2 x3 x4 x5 x6 y0 y1 y2 y3 y4 y5 y6); (obtain ⟨x0, x1, x2, x3, x4, x5, x6⟩ := hX2.facts; obtain ⟨y0, y1, y2, y3, y4, y5, y6⟩ := hY2.facts)) | (go_at_call 42; refine (C7.out _ hbw).mono ?_; rintro e w2 ⟨rfl, hb2⟩; replace hbw := bstep hbw hb2; clear C7; have hQ2 : ABox w2 gq ad kl ko st lo hi := Blk.keep hQ2 hb2; (have hX2 : CBox w2 w.heap.size fa ta pa A cla.length ca B coa.length cb S sia.length cs ua := (by first | exact Blk.keep hX2 hb2 | exact Blk.keep (box3' _ _ _ _).1 hb2)); (have hY2 : CBox w2 (w.heap.size + 1) fb tb pb A' clb.length ca' B' cob.length cb' S' sib.length cs' ub := (by first | exact Blk.keep hY2 hb2 | exact Blk.keep (box3' _ _ _ _).2.1 hb2)); (have hZ2 : ABox w2 (w.heap.size + 1 + 1) ⟨#[]⟩ ⟨#[]⟩ ⟨#[]⟩ 0 0 0 := (by first | exact Blk.keep hZ2 hb2 | exact Blk.keep (box3' _ _ _ _).2.2 hb2)); (try clear x0 x1 x2 x3 x4 x5 x6 y0 y1 y2 y3 y4 y5 y6); (obtain ⟨x0, x1, x2, x3, x4, x5, x6⟩ := hX2.facts; obtain ⟨y0, y1, y2, y3, y4, y5, y6⟩ := hY2.facts)) | (go_at_call 45; refine (C8.out _ hbw).mono ?_; rintro e w2 ⟨rfl, hb2⟩; replace hbw := bstep hbw hb2; clear C8; have hQ2 : ABox w2 gq ad kl ko st lo hi := Blk.keep hQ2 hb2; (have hX2 : CBox w2 w.heap.size fa ta pa A cla.length ca B coa.length cb S sia.length cs ua := (by first | exact Blk.keep hX2 hb2 | exact Blk.keep (box3' _ _ _ _).1 hb2)); (have hY2 : CBox w2 (w.heap.size + 1) fb tb pb A' clb.length ca' B' cob.length cb' S' sib.length cs' ub := (by first | exact Blk.keep hY2 hb2 | exact Blk.keep (box3' _ _ _ _).2.1 hb2)); (have hZ2 : ABox w2 (w.heap.size + 1 + 1) ⟨#[]⟩ ⟨#[]⟩ ⟨#[]⟩ 0 0 0 := (by first | exact Blk.keep hZ2 hb2 | exact Blk.keep (box3' _ _ _ _).2.2 hb2)); (try clear x0 x1 x2 x3 x4 x5 x6 y0 y1 y2 y3 y4 y5 y6); (obtain ⟨x0, x1, x2, x3, x4, x5, x6⟩ := hX2.facts; obtain ⟨y0, y1, y2, y3, y4, y5, y6⟩ := hY2.facts)))
  have HX2 := Lib.hid hX2; have HY2 := Lib.hid hY2; have HZ2 := Lib.hid hZ2; have HQ2 := Lib.hid hQ2; have HBW := Lib.hid hbw
  clear hX2 hY2 hZ2 hQ2 hbw hb2
  by_cases t2 : fa < fb
  · obtain rfl : V = .tuple #[.bool false, .agg #[.string ad, .string kl, .string ko, .int .i64 st, .int .i64 lo, .int .i64 hi], .int .i64 0] := by rw [HV.out, E2.out t1 t2]; rfl
    have d2 : decide (fa < fb) = true := decide_eq_true t2
    clear HV E1 E2 E3 E4
    go_upto_region 22 with fail
    have hQ := HQ2.out; have hZ2 := HZ2.out; have hbw := HBW.out
    obtain ⟨m0, m1, m2, m3, m4, m5⟩ := hQ.facts
    (obtain ⟨z0, z1, z2, z3, z4, z5⟩ := hZ2.facts; have q0 := hZ2.free0 0; have q1 := hZ2.free0 1; have q2 := hZ2.free0 2; have q3 := hZ2.free0 3; have q4 := hZ2.free0 4; have q5 := hZ2.free0 5)
    go_region
    go_wp2
    obtain ⟨p0, p1, p2, p3, p4, p5⟩ := (hZ2.put ad kl ko st lo hi).facts
    clear x0 x1 x2 x3 x4 x5 x6 y0 y1 y2 y3 y4 y5 y6 z0 z1 z2 z3 z4 z5 q0 q1 q2 q3 q4 q5
    exact bodyPost_ret (v := .tuple #[.bool false, .agg #[.string ad, .string kl, .string ko, .int .i64 st, .int .i64 lo, .int .i64 hi], .int .i64 0]) (by simp only [results, Tryz.results13]; simp [go_sem, p0, p1, p2, p3, p4, p5]) rfl ⟨rfl, (below_put6 hbw (by omega) _ _ _ _ _ _).drew⟩
  have d2 : decide (fa < fb) = false := decide_eq_false t2
  by_cases t3 : tb < ta
  · obtain rfl : V = .tuple #[.bool false, .agg #[.string ad, .string kl, .string ko, .int .i64 st, .int .i64 (ta - 1), .int .i64 (ta - 1)], .int .i64 0] := by rw [HV.out, E3.out (by omega) (by omega) (by omega)]; rfl
    have d3 : decide (tb < ta) = true := decide_eq_true t3
    clear HV E1 E2 E3 E4
    obtain ⟨m0, m1, m2, m3, m4, m5⟩ := HQ2.out.facts
    have n0 := HQ2.out.free0 0; have n1 := HQ2.out.free0 1; have n2 := HQ2.out.free0 2; have n3 := HQ2.out.free0 3; have n4 := HQ2.out.free0 4; have n5 := HQ2.out.free0 5
    go_upto_region 22 with fail
    obtain ⟨W22, hW22⟩ : ∃ W, W = (w2.setCell ⟨gq, 4, none⟩ (.int .i64 (ta - 1))).setCell ⟨gq, 5, none⟩ (.int .i64 (ta - 1)) := ⟨_, rfl⟩
    have hQ : ABox W22 gq ad kl ko st (ta - 1) (ta - 1) := by rw [hW22]; exact HQ2.out.set45
    have hZ2 : ABox W22 (w.heap.size + 1 + 1) ⟨#[]⟩ ⟨#[]⟩ ⟨#[]⟩ 0 0 0 := by rw [hW22]; exact (Blk.far (Blk.far HZ2.out ⟨gq, 4, none⟩ _ (by simp; omega)) ⟨gq, 5, none⟩ _ (by simp; omega))
    have hbw : Below w.heap.size w W22 := by rw [hW22]; exact (HBW.out.setCell (p := ⟨gq, 4, none⟩) (by simp; omega) _).setCell (p := ⟨gq, 5, none⟩) (by simp; omega) _
    rw [← hW22]
    clear hW22 m0 m1 m2 m3 m4 m5 n0 n1 n2 n3 n4 n5 x0 x1 x2 x3 x4 x5 x6 y0 y1 y2 y3 y4 y5 y6
    obtain ⟨m0, m1, m2, m3, m4, m5⟩ := hQ.facts
    (obtain ⟨z0, z1, z2, z3, z4, z5⟩ := hZ2.facts; have q0 := hZ2.free0 0; have q1 := hZ2.free0 1; have q2 := hZ2.free0 2; have q3 := hZ2.free0 3; have q4 := hZ2.free0 4; have q5 := hZ2.free0 5)
    go_region
    go_wp2
    obtain ⟨p0, p1, p2, p3, p4, p5⟩ := (hZ2.put ad kl ko st ((ta - 1)) ((ta - 1))).facts
    clear z0 z1 z2 z3 z4 z5 q0 q1 q2 q3 q4 q5
    exact bodyPost_ret (v := .tuple #[.bool false, .agg #[.string ad, .string kl, .string ko, .int .i64 st, .int .i64 (ta - 1), .int .i64 (ta - 1)], .int .i64 0]) (by simp only [results, Tryz.results13]; simp [go_sem, p0, p1, p2, p3, p4, p5]) rfl ⟨rfl, (below_put6 hbw (by omega) _ _ _ _ _ _).drew⟩
  have d3 : decide (tb < ta) = false := decide_eq_false t3
  have hV2 := E4.out (by omega) (by omega) (by omega)
  rw [O1.out, O2.out, O3.out] at hV2
  have hVV := HV.out
  rw [hV2] at hVV
  have hwx := HWX.out
  clear HV E1 E2 E3 E4 O1 O2 O3 HWX hV2
  cases cv
  · obtain rfl : V = .tuple #[.bool false, .agg #[.string wx, .string kl, .string ko, .int .i64 st, .int .i64 lo, .int .i64 hi], .int .i64 0] := by rw [hVV, ← hwx]; rfl
    clear hVV hwx
    obtain ⟨m0, m1, m2, m3, m4, m5⟩ := HQ2.out.facts
    have n0 := HQ2.out.free0 0; have n1 := HQ2.out.free0 1; have n2 := HQ2.out.free0 2; have n3 := HQ2.out.free0 3; have n4 := HQ2.out.free0 4; have n5 := HQ2.out.free0 5
    go_upto_region 22 with fail
    obtain ⟨W22, hW22⟩ : ∃ W, W = w2.setCell ⟨gq, 0, none⟩ (.string wx) := ⟨_, rfl⟩
    have hQ : ABox W22 gq wx kl ko st lo hi := by rw [hW22]; exact HQ2.out.set0
    have hZ2 : ABox W22 (w.heap.size + 1 + 1) ⟨#[]⟩ ⟨#[]⟩ ⟨#[]⟩ 0 0 0 := by rw [hW22]; exact Blk.far HZ2.out ⟨gq, 0, none⟩ _ (by simp; omega)
    have hbw : Below w.heap.size w W22 := by rw [hW22]; exact HBW.out.setCell (p := ⟨gq, 0, none⟩) (by simp; omega) _
    rw [← hW22]
    clear hW22 m0 m1 m2 m3 m4 m5 n0 n1 n2 n3 n4 n5 x0 x1 x2 x3 x4 x5 x6 y0 y1 y2 y3 y4 y5 y6
    obtain ⟨m0, m1, m2, m3, m4, m5⟩ := hQ.facts
    (obtain ⟨z0, z1, z2, z3, z4, z5⟩ := hZ2.facts; have q0 := hZ2.free0 0; have q1 := hZ2.free0 1; have q2 := hZ2.free0 2; have q3 := hZ2.free0 3; have q4 := hZ2.free0 4; have q5 := hZ2.free0 5)
    go_region
    go_wp2
    obtain ⟨p0, p1, p2, p3, p4, p5⟩ := (hZ2.put wx kl ko st lo hi).facts
    clear z0 z1 z2 z3 z4 z5 q0 q1 q2 q3 q4 q5
    exact bodyPost_ret (v := .tuple #[.bool false, .agg #[.string wx, .string kl, .string ko, .int .i64 st, .int .i64 lo, .int .i64 hi], .int .i64 0]) (by simp only [results, Tryz.results13]; simp [go_sem, p0, p1, p2, p3, p4, p5]) rfl ⟨rfl, (below_put6 hbw (by omega) _ _ _ _ _ _).drew⟩
  cases i1
  rotate_left
  · obtain rfl : V = .tuple #[.bool false, .agg #[.string ad, .string g1, .string ko, .int .i64 st, .int .i64 lo, .int .i64 hi], .int .i64 0] := by rw [hVV]; rfl
    clear hVV hwx
    obtain ⟨m0, m1, m2, m3, m4, m5⟩ := HQ2.out.facts
    have n0 := HQ2.out.free0 0; have n1 := HQ2.out.free0 1; have n2 := HQ2.out.free0 2; have n3 := HQ2.out.free0 3; have n4 := HQ2.out.free0 4; have n5 := HQ2.out.free0 5
    go_upto_region 22 with fail
    obtain ⟨W22, hW22⟩ : ∃ W, W = w2.setCell ⟨gq, 1, none⟩ (.string g1) := ⟨_, rfl⟩
    have hQ : ABox W22 gq ad g1 ko st lo hi := by rw [hW22]; exact HQ2.out.set1
    have hZ2 : ABox W22 (w.heap.size + 1 + 1) ⟨#[]⟩ ⟨#[]⟩ ⟨#[]⟩ 0 0 0 := by rw [hW22]; exact Blk.far HZ2.out ⟨gq, 1, none⟩ _ (by simp; omega)
    have hbw : Below w.heap.size w W22 := by rw [hW22]; exact HBW.out.setCell (p := ⟨gq, 1, none⟩) (by simp; omega) _
    rw [← hW22]
    clear hW22 m0 m1 m2 m3 m4 m5 n0 n1 n2 n3 n4 n5 x0 x1 x2 x3 x4 x5 x6 y0 y1 y2 y3 y4 y5 y6
    obtain ⟨m0, m1, m2, m3, m4, m5⟩ := hQ.facts
    (obtain ⟨z0, z1, z2, z3, z4, z5⟩ := hZ2.facts; have q0 := hZ2.free0 0; have q1 := hZ2.free0 1; have q2 := hZ2.free0 2; have q3 := hZ2.free0 3; have q4 := hZ2.free0 4; have q5 := hZ2.free0 5)
    go_region
    go_wp2
    obtain ⟨p0, p1, p2, p3, p4, p5⟩ := (hZ2.put ad g1 ko st lo hi).facts
    clear z0 z1 z2 z3 z4 z5 q0 q1 q2 q3 q4 q5
    exact bodyPost_ret (v := .tuple #[.bool false, .agg #[.string ad, .string g1, .string ko, .int .i64 st, .int .i64 lo, .int .i64 hi], .int .i64 0]) (by simp only [results, Tryz.results13]; simp [go_sem, p0, p1, p2, p3, p4, p5]) rfl ⟨rfl, (below_put6 hbw (by omega) _ _ _ _ _ _).drew⟩
  cases i2
  rotate_left
  · obtain rfl : V = .tuple #[.bool false, .agg #[.string ad, .string kl, .string g2, .int .i64 st, .int .i64 lo, .int .i64 hi], .int .i64 0] := by rw [hVV]; rfl
    clear hVV hwx
    obtain ⟨m0, m1, m2, m3, m4, m5⟩ := HQ2.out.facts
    have n0 := HQ2.out.free0 0; have n1 := HQ2.out.free0 1; have n2 := HQ2.out.free0 2; have n3 := HQ2.out.free0 3; have n4 := HQ2.out.free0 4; have n5 := HQ2.out.free0 5
    go_upto_region 22 with fail
    obtain ⟨W22, hW22⟩ : ∃ W, W = w2.setCell ⟨gq, 2, none⟩ (.string g2) := ⟨_, rfl⟩
    have hQ : ABox W22 gq ad kl g2 st lo hi := by rw [hW22]; exact HQ2.out.set2
    have hZ2 : ABox W22 (w.heap.size + 1 + 1) ⟨#[]⟩ ⟨#[]⟩ ⟨#[]⟩ 0 0 0 := by rw [hW22]; exact Blk.far HZ2.out ⟨gq, 2, none⟩ _ (by simp; omega)
    have hbw : Below w.heap.size w W22 := by rw [hW22]; exact HBW.out.setCell (p := ⟨gq, 2, none⟩) (by simp; omega) _
    rw [← hW22]
    clear hW22 m0 m1 m2 m3 m4 m5 n0 n1 n2 n3 n4 n5 x0 x1 x2 x3 x4 x5 x6 y0 y1 y2 y3 y4 y5 y6
    obtain ⟨m0, m1, m2, m3, m4, m5⟩ := hQ.facts
    (obtain ⟨z0, z1, z2, z3, z4, z5⟩ := hZ2.facts; have q0 := hZ2.free0 0; have q1 := hZ2.free0 1; have q2 := hZ2.free0 2; have q3 := hZ2.free0 3; have q4 := hZ2.free0 4; have q5 := hZ2.free0 5)
    go_region
    go_wp2
    obtain ⟨p0, p1, p2, p3, p4, p5⟩ := (hZ2.put ad kl g2 st lo hi).facts
    clear z0 z1 z2 z3 z4 z5 q0 q1 q2 q3 q4 q5
    exact bodyPost_ret (v := .tuple #[.bool false, .agg #[.string ad, .string kl, .string g2, .int .i64 st, .int .i64 lo, .int .i64 hi], .int .i64 0]) (by simp only [results, Tryz.results13]; simp [go_sem, p0, p1, p2, p3, p4, p5]) rfl ⟨rfl, (below_put6 hbw (by omega) _ _ _ _ _ _).drew⟩
  cases i3
  rotate_left
  · obtain rfl : V = .tuple #[.bool false, .agg #[.string ad, .string kl, .string ko, .int .i64 g3, .int .i64 lo, .int .i64 hi], .int .i64 0] := by rw [hVV]; rfl
    clear hVV hwx
    obtain ⟨m0, m1, m2, m3, m4, m5⟩ := HQ2.out.facts
    have n0 := HQ2.out.free0 0; have n1 := HQ2.out.free0 1; have n2 := HQ2.out.free0 2; have n3 := HQ2.out.free0 3; have n4 := HQ2.out.free0 4; have n5 := HQ2.out.free0 5
    go_upto_region 22 with fail
    obtain ⟨W22, hW22⟩ : ∃ W, W = w2.setCell ⟨gq, 3, none⟩ (.int .i64 g3) := ⟨_, rfl⟩
    have hQ : ABox W22 gq ad kl ko g3 lo hi := by rw [hW22]; exact HQ2.out.set3
    have hZ2 : ABox W22 (w.heap.size + 1 + 1) ⟨#[]⟩ ⟨#[]⟩ ⟨#[]⟩ 0 0 0 := by rw [hW22]; exact Blk.far HZ2.out ⟨gq, 3, none⟩ _ (by simp; omega)
    have hbw : Below w.heap.size w W22 := by rw [hW22]; exact HBW.out.setCell (p := ⟨gq, 3, none⟩) (by simp; omega) _
    rw [← hW22]
    clear hW22 m0 m1 m2 m3 m4 m5 n0 n1 n2 n3 n4 n5 x0 x1 x2 x3 x4 x5 x6 y0 y1 y2 y3 y4 y5 y6
    obtain ⟨m0, m1, m2, m3, m4, m5⟩ := hQ.facts
    (obtain ⟨z0, z1, z2, z3, z4, z5⟩ := hZ2.facts; have q0 := hZ2.free0 0; have q1 := hZ2.free0 1; have q2 := hZ2.free0 2; have q3 := hZ2.free0 3; have q4 := hZ2.free0 4; have q5 := hZ2.free0 5)
    go_region
    go_wp2
    obtain ⟨p0, p1, p2, p3, p4, p5⟩ := (hZ2.put ad kl ko g3 lo hi).facts
    clear z0 z1 z2 z3 z4 z5 q0 q1 q2 q3 q4 q5
    exact bodyPost_ret (v := .tuple #[.bool false, .agg #[.string ad, .string kl, .string ko, .int .i64 g3, .int .i64 lo, .int .i64 hi], .int .i64 0]) (by simp only [results, Tryz.results13]; simp [go_sem, p0, p1, p2, p3, p4, p5]) rfl ⟨rfl, (below_put6 hbw (by omega) _ _ _ _ _ _).drew⟩
  obtain rfl : V = .tuple #[.bool true, .agg #[.string ⟨#[]⟩, .string ⟨#[]⟩, .string ⟨#[]⟩, .int .i64 0, .int .i64 0, .int .i64 0], .int .i64 0] := by rw [hVV]; rfl
  clear hVV hwx
  have hZ2 := HZ2.out; have hbw := HBW.out
  (obtain ⟨z0, z1, z2, z3, z4, z5⟩ := hZ2.facts; have q0 := hZ2.free0 0; have q1 := hZ2.free0 1; have q2 := hZ2.free0 2; have q3 := hZ2.free0 3; have q4 := hZ2.free0 4; have q5 := hZ2.free0 5)
  go_wp2_with fail
  obtain ⟨p0, p1, p2, p3, p4, p5⟩ := (hZ2.put ⟨#[]⟩ ⟨#[]⟩ ⟨#[]⟩ 0 0 0).facts
  clear x0 x1 x2 x3 x4 x5 x6 y0 y1 y2 y3 y4 y5 y6 z0 z1 z2 z3 z4 z5 q0 q1 q2 q3 q4 q5
  exact bodyPost_ret (v := .tuple #[.bool true, .agg #[.string ⟨#[]⟩, .string ⟨#[]⟩, .string ⟨#[]⟩, .int .i64 0, .int .i64 0, .int .i64 0], .int .i64 0]) (by simp only [results, Tryz.results13]; simp [go_sem, p0, p1, p2, p3, p4, p5]) rfl ⟨rfl, below_put6 hbw (by omega) _ _ _ _ _ _⟩
end Go.Proofs.YtocgkpdolgnbgaaGreatDoor
namespace Go.Proofs.YtocgkpdolgnbgaaGreatDoor
open Go.RowKit Go.Sort
set_option linter.unusedVariables false
set_option linter.unusedSimpArgs false
set_option maxRecDepth 100000
end Go.Proofs.YtocgkpdolgnbgaaGreatDoor
namespace Go.Proofs.YtocgkpdolgnbgaaGreatDoor
open Go.RowKit Go.Sort
set_option linter.unusedVariables false
set_option linter.unusedSimpArgs false
set_option maxRecDepth 100000
theorem reads_lt0 {w : World} {A : Option Addr} {n : Nat} {vs : List Value} (hR : Reads w 1 A n vs) (hn : 0 < n) : ∀ a, A = some a → a.block < w.heap.size := by
  intro a ha
  obtain ⟨b, o, e, hc⟩ := hR.2 hn
  rw [e] at ha
  injection ha with ha
  subst ha
  have hl : 0 < vs.length := by have := hR.1; omega
  exact cell_lt (hc 0 _ (List.getElem?_eq_getElem hl))
theorem allowsS_same (A : Option Addr) (n c : Nat) (xs : List ByteArray) (x : ByteArray) (w : World) (hA : Reads w 1 A n (xs.map .string)) (hn : n ≤ 1000000000) : Calls Tryz.prog 82 #[.slice A n c, .string x] w fun e w' => e = .returned (.bool (allowsL xs x)) ∧ w' = w := by
  have hl : xs.length = n := by have := hA.1; simp at this; omega
  rcases Nat.eq_zero_or_pos n with h0 | h0
  · subst h0
    obtain rfl : xs = [] := List.eq_nil_of_length_eq_zero hl
    go_enter Tryz.func82, Tryz.ntmps82
    go_wp2
    go_ret
    exact ⟨rfl, rfl⟩
  · have he : xs.isEmpty = false := by cases xs; simp at hl; omega; rfl
    obtain ⟨b, o, rfl, hc⟩ := hA.2 h0
    have cC := fun (W : World) (hb : W = w) => Tryz.slices_Contains_string b o n c xs x W (by omega) (by omega) (fun j hj => by
        rw [hb]
        refine hc j _ ?_
        rw [List.getElem?_map, List.getElem?_eq_getElem hj]
        simp [List.getD_eq_getElem?_getD, List.getElem?_eq_getElem hj])
    rw [List.take_of_length_le (by omega)] at cC
    have hcs : Lib.containsS xs x = allowsL xs x := by
      unfold allowsL
      rw [he, Bool.false_or, Bool.eq_iff_iff, Lib.containsS_iff]
      simp
    rw [hcs] at cC
    have HC := Lib.hid cC
    have hn0 : ((n : Int) == 0) = false := by simp; omega
    clear cC hc hA hcs he
    generalize allowsL xs x = res at *
    go_enter Tryz.func82, Tryz.ntmps82
    go_wp2_with (go_at_call 123; refine (HC.out _ rfl).mono ?_; rintro e w2 ⟨rfl, rfl⟩)
    go_ret
    exact ⟨rfl, rfl⟩
theorem both1S (bx : Nat) (B : Option Addr) (nb cb : Nat) (ys : List ByteArray) (x : ByteArray) (W : World) (h0 : W.cell? ⟨bx, 0, none⟩ = some (.slice B nb cb)) (hB : Reads W 1 B nb (ys.map .string)) (hn : nb ≤ 1000000000) :
    Calls Tryz.prog 89 #[.string x, .pointer (some ⟨bx, 0, none⟩)] W fun e w' => e = .returned (.bool (!allowsL ys x)) ∧ w' = W := by
  have cA := allowsS_same B nb cb ys x W hB hn
  generalize allowsL ys x = r at *
  have HA := Lib.hid cA
  clear cA hB
  go_enter Tryz.func89, Tryz.ntmps89
  go_wp2_with (go_at_call 82; refine HA.out.mono ?_; rintro e w2 ⟨rfl, rfl⟩)
  go_ret
  exact ⟨rfl, rfl⟩
section
variable {α : Type} [Inhabited α]
theorem put_cell (enc : α → Value) (W : World) (n blk : Nat) (dk : Array α) (os : Array Obj) (a : Addr) (h : a.block ≠ blk) (hl : a.block < W.heap.size) : (sortWorld enc W blk 0 n dk os).cell? a = W.cell? a := by
  unfold sortWorld
  have e : (Sort.grow (putRow enc (Sort.ahead W n) blk 0 dk) os).cell? a = (putRow enc (Sort.ahead W n) blk 0 dk).cell? a :=
    World.cell?_of_block (Sort.heap_grow_old _ os (by rw [size_putRow]; exact hl))
  rw [e, cell?_putRow_other enc _ blk 0 dk a (.inl h)]
  rfl
theorem grownBy_putA {w : World} {g n : Nat} (enc : α → Value) (d : Array α) : w.grownBy (putRow enc (Sort.ahead w n) g 0 d) (some g) := by
  refine ⟨rfl, rfl, rfl, by simp [putRow, mapBlock, Sort.ahead], fun k hk hne => ?_⟩
  have : g ≠ k := fun e => hne (by rw [e])
  simp [putRow, mapBlock, Sort.ahead, Array.getElem?_modify, this]
end
theorem zero9 (w : World) : (zeroValue 9).run Tryz.prog w = .ok (.string ByteArray.empty) w := by kernel_rfl
theorem delS (base blk cap n bx : Nat) (B : Option Addr) (nb cb : Nat) (zs ys : List ByteArray) (W : World) (h0 : W.cell? ⟨bx, 0, none⟩ = some (.slice B nb cb)) (hB : Reads W 1 B nb (ys.map .string)) (hnb : nb ≤ 1000000000) (hbx : bx < base) (hBl : 0 < nb → ∀ a, B = some a → a.block < base) (hbw : base ≤ W.heap.size)
    (hown : W.ownsRow base 9 1 (.slice (some ⟨blk, 0, none⟩) n cap) n (zs.map .string)) (hn : n ≤ 1000000000) :
    Calls Tryz.prog 87 #[.slice (some ⟨blk, 0, none⟩) n cap, .func (.func 89) #[] #[.pointer (some ⟨bx, 0, none⟩)]] W fun e w' => e = .returned (.slice (some ⟨blk, 0, none⟩) (zs.filter (allowsL ys)).length cap) ∧ Reads w' 1 (some ⟨blk, 0, none⟩) (zs.filter (allowsL ys)).length ((zs.filter (allowsL ys)).map .string) ∧ Below base W w' := by
  have hl : zs.length = n := by have := hown.1; simp at this; omega
  subst hl
  have hbk : base ≤ blk := (hown.lt blk rfl).1
  have hblk : blk < W.heap.size := (hown.lt blk rfl).2
  have hcap : zs.length ≤ cap := ownsRow_cap hown
  have hH : Holds Value.string W blk 0 zs.toArray := by
    intro j hj
    have hj' : j < zs.length := by simpa using hj
    refine ⟨?_, hown.frozenAt (0 + j)⟩
    have := hown.cellAt (0 + j) (by omega)
    rw [this]
    simp [List.getElem?_eq_getElem hj', getElem!_pos, hj']
  have key : ∀ V : World, (∀ a : Addr, a.block ≠ blk → a.block < W.heap.size → V.cell? a = W.cell? a) → ∀ x, FnGives Tryz.prog 89 #[.pointer (some ⟨bx, 0, none⟩)] #[Value.string x] (.bool (!allowsL ys x)) V := by
    intro V hV x
    have hz0 : V.cell? ⟨bx, 0, none⟩ = some (.slice B nb cb) := (hV _ (by simp; omega) (by simp; omega)).trans h0
    have hzB : Reads V 1 B nb (ys.map .string) := by
      refine ⟨hB.1, fun h => ?_⟩
      obtain ⟨b, o, rfl, hc⟩ := hB.2 h
      have := hBl h _ rfl
      simp only at this
      exact ⟨b, o, rfl, fun j u hu => (hV _ (by simp; omega) (by simp; omega)).trans (hc j u hu)⟩
    exact (both1S bx B nb cb ys x V hz0 hzB hnb).mono fun e w' ⟨h1, h2⟩ => ⟨h1, 0, by rw [h2]; rfl⟩
  have := Tryz.slices_DeleteFunc_f87 Value.string (fun _ => rfl) (fun x => !allowsL ys x) 89 #[.pointer (some ⟨bx, 0, none⟩)] (enters_of Tryz.func89 (by kernel_rfl) rfl) ByteArray.empty zero9 blk 0 cap zs.toArray W
    (fun V x hb => key V (fun a _ hl => hb.cell hl) x) (fun m os dk x _ => key _ (fun a h hl => put_cell Value.string W m blk dk os a h hl) x) hH (by simp; omega) (by simpa using hcap)
  simp only [List.size_toArray, Bool.not_not] at this
  refine this.mono ?_
  rintro e w' ⟨rfl, q, rfl⟩
  refine ⟨rfl, ?_, ?_⟩
  · refine ⟨by simp, fun _ => ⟨blk, 0, rfl, fun j u hu => ?_⟩⟩
    rw [List.getElem?_map, Option.map_eq_some_iff] at hu
    obtain ⟨x, hx, rfl⟩ := hu
    have hjl := (List.getElem?_eq_some_iff.1 hx).1
    have hfl : (zs.filter (allowsL ys)).length ≤ zs.length := List.length_filter_le _ _
    have h1 := (holds_putRow Value.string (Sort.ahead W q) blk 0 zs.toArray ((zs.filter (allowsL ys)) ++ List.replicate (zs.length - (zs.filter (allowsL ys)).length) ByteArray.empty).toArray hH (by simp; omega) j (by simp; omega)).1
    rw [h1]
    congr 1
    congr 1
    have hj2 : j < (zs.filter (allowsL ys) ++ List.replicate (zs.length - (zs.filter (allowsL ys)).length) ByteArray.empty).length := by simp; omega
    rw [getElem!_pos _ _ (by simpa using hj2)]
    simp only [List.getElem_toArray]
    rw [List.getElem_append_left hjl]
    exact (List.getElem?_eq_some_iff.1 hx).2
  · exact (Below.refl base W).grown (grownBy_putA (n := q) Value.string _) hbw (fun k hk => by cases hk; exact hbk)
def BothPostS (xs ys : List ByteArray) (w : World) (e : Ending) (w' : World) : Prop :=
  Below w.heap.size w w' ∧ ∃ S cs, e = .returned (.tuple #[.slice S (bothF xs ys).length cs, .bool (bothOk xs ys)]) ∧ Reads w' 1 S (bothF xs ys).length ((bothF xs ys).map .string) ∧ (0 < (bothF xs ys).length → ∀ a, S = some a → w.heap.size ≤ a.block)
theorem delS0 (A : Option Addr) (c : Nat) (fv : Value) (w : World) : Calls Tryz.prog 87 #[.slice A 0 c, fv] w fun e w' => e = .returned (.slice A 0 c) ∧ w' = w := by
  have HC := Lib.hid (fun W => Tryz.slices_IndexFunc_empty_f127 (α := ByteArray) A c fv W)
  go_enter Tryz.func87, Tryz.ntmps87
  go_wp2_with (go_at_call 127; refine (HC.out _).mono ?_; rintro e w2 ⟨rfl, rfl⟩)
  go_ret
  exact ⟨rfl, rfl⟩
theorem cloneS (A : Option Addr) (n c : Nat) (zs : List ByteArray) (w : World) (hA : Reads w 1 A n (zs.map .string)) (h0 : 0 < n) (hn : n ≤ 1000000) : Calls Tryz.prog 88 #[.slice A n c] w fun e w' => ∃ g cap, e = .returned (.slice (some ⟨g, 0, none⟩) n cap) ∧ w'.ownsRow w.heap.size 9 1 (.slice (some ⟨g, 0, none⟩) n cap) n (zs.map .string) ∧ Below w.heap.size w w' := by
  have hl : zs.length = n := by have := hA.1; simp at this; omega
  obtain ⟨b, o, rfl, hc⟩ := hA.2 h0
  refine (Tryz.slices_Clone_string b o n c zs w (by omega) (by omega) (fun j hj => ?_)).mono ?_
  · refine hc j _ ?_
    rw [List.getElem?_map, List.getElem?_eq_getElem hj]
    simp [List.getD_eq_getElem?_getD, List.getElem?_eq_getElem hj]
  · rintro e w' ⟨v', rfl, hown, _, hb⟩
    rw [List.take_of_length_le (by omega)] at hown
    rcases hown.2 with ⟨_, h⟩ | ⟨g, cap, cur, rfl, r⟩
    · omega
    · exact ⟨g, cap, rfl, hown, hb⟩
theorem cloneS0 (A : Option Addr) (c : Nat) (w : World) : Calls Tryz.prog 88 #[.slice A 0 c] w fun e w' => ∃ A' c', e = .returned (.slice A' 0 c') ∧ Below w.heap.size w w' := by
  cases A with
  | none => exact (Tryz.slices_Clone_string_nil 0 c w).mono fun e w' ⟨h1, h2⟩ => ⟨none, 0, h1, by rw [h2]; exact Below.refl _ _⟩
  | some a =>
    refine (Tryz.slices_Clone_string_zero a c w).mono ?_
    rintro e w' ⟨v', rfl, hown, _, hb⟩
    rcases hown.2 with ⟨rfl, _⟩ | ⟨g, cap, cur, rfl, r⟩
    · exact ⟨none, 0, rfl, hb⟩
    · exact ⟨_, _, rfl, hb⟩
set_option maxHeartbeats 4000000 in
theorem bothS_any (A : Option Addr) (na ca : Nat) (B : Option Addr) (nb cb : Nat) (xs ys : List ByteArray) (w : World) (hA : Reads w 1 A na (xs.map .string)) (hB : Reads w 1 B nb (ys.map .string)) (h1 : na ≤ 1000000) (h2 : nb ≤ 1000000) :
    Calls Tryz.prog 35 #[.slice A na ca, .slice B nb cb] w (BothPostS xs ys w) := by
  have hla : xs.length = na := by have := hA.1; simp at this; omega
  have hlb : ys.length = nb := by have := hB.1; simp at this; omega
  have hbl := fun (h : 0 < nb) => reads_lt0 hB h
  have gen : ∀ (L : Option Addr) (n c : Nat) (zs : List ByteArray), Reads w 1 L n (zs.map .string) → 0 < n → n ≤ 1000000 → (∀ W, Below w.heap.size w W → Calls Tryz.prog 88 #[.slice L n c] W fun e w' => ∃ g cap, e = .returned (.slice (some ⟨g, 0, none⟩) n cap) ∧ w'.ownsRow W.heap.size 9 1 (.slice (some ⟨g, 0, none⟩) n cap) n (zs.map .string) ∧ Below W.heap.size W w') ∧
      (∀ (g cap : Nat) (W : World), W.cell? ⟨w.heap.size, 0, none⟩ = some (.slice B nb cb) → Below w.heap.size w W → W.ownsRow (w.heap.size + 1) 9 1 (.slice (some ⟨g, 0, none⟩) n cap) n (zs.map .string) → Calls Tryz.prog 87 #[.slice (some ⟨g, 0, none⟩) n cap, .func (.func 89) #[] #[.pointer (some ⟨w.heap.size, 0, none⟩)]] W fun e w' => e = .returned (.slice (some ⟨g, 0, none⟩) (zs.filter (allowsL ys)).length cap) ∧ Reads w' 1 (some ⟨g, 0, none⟩) (zs.filter (allowsL ys)).length ((zs.filter (allowsL ys)).map .string) ∧ Below (w.heap.size + 1) W w') := by
    intro L n c zs hL h0 hn
    refine ⟨fun W hb => cloneS L n c zs W (hL.keep hb) h0 hn, fun g cap W c0 hb hown => ?_⟩
    exact delS (w.heap.size + 1) g cap n w.heap.size B nb cb zs ys W c0 (hB.keep hb) (by omega) (by omega) (fun h a ha => by have := hbl h a ha; omega) (by have := cell_lt c0; simp only at this; omega) hown (by omega)
  obtain ⟨F, hF⟩ : ∃ F, F = bothF xs ys := ⟨_, rfl⟩
  obtain ⟨K, hK⟩ : ∃ K, K = bothOk xs ys := ⟨_, rfl⟩
  unfold BothPostS
  rw [← hF, ← hK]
  unfold bothF at hF
  unfold bothOk bothF at hK
  by_cases ha : na = 0
  · subst ha
    obtain rfl : xs = [] := List.eq_nil_of_length_eq_zero hla
    simp only [List.isEmpty_nil, if_true] at hF hK
    by_cases hb0 : nb = 0
    · subst hb0
      obtain rfl : ys = [] := List.eq_nil_of_length_eq_zero hlb
      obtain rfl : F = [] := hF
      obtain rfl : K = true := hK
      have HC := Lib.hid (fun W => cloneS0 B cb W)
      have HD := Lib.hid (fun A c fv W => delS0 A c fv W)
      clear gen hA hB hbl hla hlb
      go_enter Tryz.func35, Tryz.ntmps35
      go_wp2_with (first | (go_at_call 88; refine (HC.out _).mono ?_; rintro e w2 ⟨A', c', rfl, hb2⟩) | (go_at_call 87; refine (HD.out _ _ _ _).mono ?_; rintro e w3 ⟨rfl, rfl⟩))
      go_ret2
      exact ⟨by (repeat (first | exact .refl _ _ | assumption | refine .drew ?_ | refine balloc ?_ _ | refine bdrewN ?_ _ | refine .setCell ?_ (by simp <;> omega) _ | refine bstep ?_ (by assumption))), A', c', rfl, Reads.nil_ _ _ _, fun h => absurd h (by simp)⟩
    · obtain ⟨hC, hD⟩ := gen B nb cb ys hB (by omega) h2
      have hye : ys.isEmpty = false := by cases ys; simp at hlb; omega; rfl
      rw [← hF, hye, Bool.or_false] at hK
      rw [← hF] at hD
      have HC := Lib.hid hC
      have HD := Lib.hid hD
      have hlen : (!F.isEmpty) = decide (0 < F.length) := by cases F <;> simp
      rw [hlen] at hK
      have e0 : ((nb : Int) == 0) = false := by simp; omega
      generalize hm : F.length = m at *
      clear gen hA hB hbl hF hla hlb hC hD hye hlen hm
      by_cases hm0 : 0 < m
      · obtain rfl : K = true := by rw [hK]; simpa using hm0
        have e1 : (0 : Int) < (m : Int) := by omega
        clear hK
        go_enter Tryz.func35, Tryz.ntmps35
        go_wp2_with (first | (go_at_call 88; refine (HC.out _ (by (repeat (first | exact .refl _ _ | assumption | refine .drew ?_ | refine balloc ?_ _ | refine bdrewN ?_ _ | refine .setCell ?_ (by simp <;> omega) _ | refine bstep ?_ (by assumption))))).mono ?_; rintro e w2 ⟨g, cap, rfl, hown, hb2⟩; have c0 := cell_keep hb2 (Boxed.new w 22 (.slice B nb cb)).cell; have hown2 := (show w2.ownsRow (w.heap.size + 1) _ _ _ _ _ from (by simpa using hown)); have hbk := (hown2.lt g rfl).1; clear hown) | (go_at_call 87; refine (HD.out _ _ _ c0 (by (repeat (first | exact .refl _ _ | assumption | refine .drew ?_ | refine balloc ?_ _ | refine bdrewN ?_ _ | refine .setCell ?_ (by simp <;> omega) _ | refine bstep ?_ (by assumption)))) hown2).mono ?_; rintro e w3 ⟨rfl, hR, hb3⟩))
        go_ret2
        exact ⟨bstep (balloc (Below.refl _ _) _) (hb2.trans (hb3.mono (by simp))), _, _, rfl, hR, fun _ a ha => (by cases ha; show w.heap.size ≤ g; omega)⟩
      · obtain rfl : K = false := by rw [hK]; simpa using hm0
        obtain rfl : m = 0 := by omega
        clear hK
        go_enter Tryz.func35, Tryz.ntmps35
        go_wp2_with (first | (go_at_call 88; refine (HC.out _ (by (repeat (first | exact .refl _ _ | assumption | refine .drew ?_ | refine balloc ?_ _ | refine bdrewN ?_ _ | refine .setCell ?_ (by simp <;> omega) _ | refine bstep ?_ (by assumption))))).mono ?_; rintro e w2 ⟨g, cap, rfl, hown, hb2⟩; have c0 := cell_keep hb2 (Boxed.new w 22 (.slice B nb cb)).cell; have hown2 := (show w2.ownsRow (w.heap.size + 1) _ _ _ _ _ from (by simpa using hown)); have hbk := (hown2.lt g rfl).1; clear hown) | (go_at_call 87; refine (HD.out _ _ _ c0 (by (repeat (first | exact .refl _ _ | assumption | refine .drew ?_ | refine balloc ?_ _ | refine bdrewN ?_ _ | refine .setCell ?_ (by simp <;> omega) _ | refine bstep ?_ (by assumption)))) hown2).mono ?_; rintro e w3 ⟨rfl, hR, hb3⟩))
        go_ret2
        exact ⟨bstep (balloc (Below.refl _ _) _) (hb2.trans (hb3.mono (by simp))), _, _, rfl, hR, fun _ a ha => (by cases ha; show w.heap.size ≤ g; omega)⟩
  · obtain ⟨hC, hD⟩ := gen A na ca xs hA (by omega) h1
    have hxe : xs.isEmpty = false := by cases xs; simp at hla; omega; rfl
    rw [hxe] at hF hK
    simp only [Bool.false_eq_true, if_false] at hF hK
    rw [← hF, hxe, Bool.or_false] at hK
    rw [← hF] at hD
    have HC := Lib.hid hC
    have HD := Lib.hid hD
    have hlen : (!F.isEmpty) = decide (0 < F.length) := by cases F <;> simp
    rw [hlen] at hK
    have e0 : ((na : Int) == 0) = false := by simp; omega
    generalize hm : F.length = m at *
    clear gen hA hB hbl hF hla hlb hC hD hxe hlen hm
    by_cases hm0 : 0 < m
    · obtain rfl : K = true := by rw [hK]; simpa using hm0
      have e1 : (0 : Int) < (m : Int) := by omega
      clear hK
      go_enter Tryz.func35, Tryz.ntmps35
      go_wp2_with (first | (go_at_call 88; refine (HC.out _ (by (repeat (first | exact .refl _ _ | assumption | refine .drew ?_ | refine balloc ?_ _ | refine bdrewN ?_ _ | refine .setCell ?_ (by simp <;> omega) _ | refine bstep ?_ (by assumption))))).mono ?_; rintro e w2 ⟨g, cap, rfl, hown, hb2⟩; have c0 := cell_keep hb2 (Boxed.new w 22 (.slice B nb cb)).cell; have hown2 := (show w2.ownsRow (w.heap.size + 1) _ _ _ _ _ from (by simpa using hown)); have hbk := (hown2.lt g rfl).1; clear hown) | (go_at_call 87; refine (HD.out _ _ _ c0 (by (repeat (first | exact .refl _ _ | assumption | refine .drew ?_ | refine balloc ?_ _ | refine bdrewN ?_ _ | refine .setCell ?_ (by simp <;> omega) _ | refine bstep ?_ (by assumption)))) hown2).mono ?_; rintro e w3 ⟨rfl, hR, hb3⟩))
      go_ret2
      exact ⟨bstep (balloc (Below.refl _ _) _) (hb2.trans (hb3.mono (by simp))), _, _, rfl, hR, fun _ a ha => (by cases ha; show w.heap.size ≤ g; omega)⟩
    · obtain rfl : K = false := by rw [hK]; simpa using hm0
      obtain rfl : m = 0 := by omega
      clear hK
      go_enter Tryz.func35, Tryz.ntmps35
      go_wp2_with (first | (go_at_call 88; refine (HC.out _ (by (repeat (first | exact .refl _ _ | assumption | refine .drew ?_ | refine balloc ?_ _ | refine bdrewN ?_ _ | refine .setCell ?_ (by simp <;> omega) _ | refine bstep ?_ (by assumption))))).mono ?_; rintro e w2 ⟨g, cap, rfl, hown, hb2⟩; have c0 := cell_keep hb2 (Boxed.new w 22 (.slice B nb cb)).cell; have hown2 := (show w2.ownsRow (w.heap.size + 1) _ _ _ _ _ from (by simpa using hown)); have hbk := (hown2.lt g rfl).1; clear hown) | (go_at_call 87; refine (HD.out _ _ _ c0 (by (repeat (first | exact .refl _ _ | assumption | refine .drew ?_ | refine balloc ?_ _ | refine bdrewN ?_ _ | refine .setCell ?_ (by simp <;> omega) _ | refine bstep ?_ (by assumption)))) hown2).mono ?_; rintro e w3 ⟨rfl, hR, hb3⟩))
      go_ret2
      exact ⟨bstep (balloc (Below.refl _ _) _) (hb2.trans (hb3.mono (by simp))), _, _, rfl, hR, fun _ a ha => (by cases ha; show w.heap.size ≤ g; omega)⟩
end Go.Proofs.YtocgkpdolgnbgaaGreatDoor
namespace Go.Proofs.YtocgkpdolgnbgaaGreatDoor
open Go.RowKit Go.Sort
set_option linter.unusedVariables false
set_option linter.unusedSimpArgs false
set_option maxRecDepth 100000
theorem allowsI_same (A : Option Addr) (n c : Nat) (xs : List Int) (x : Int) (w : World) (hA : Reads w 1 A n (xs.map (.int .i64))) (hn : n ≤ 1000000000) : Calls Tryz.prog 83 #[.slice A n c, .int .i64 x] w fun e w' => e = .returned (.bool (allowsL xs x)) ∧ w' = w := by
  have hl : xs.length = n := by have := hA.1; simp at this; omega
  rcases Nat.eq_zero_or_pos n with h0 | h0
  · subst h0
    obtain rfl : xs = [] := List.eq_nil_of_length_eq_zero hl
    go_enter Tryz.func83, Tryz.ntmps83
    go_wp2
    go_ret
    exact ⟨rfl, rfl⟩
  · have he : xs.isEmpty = false := by cases xs; simp at hl; omega; rfl
    obtain ⟨b, o, rfl, hc⟩ := hA.2 h0
    have cC := fun (W : World) (hb : W = w) => Tryz.slices_Contains_int b o n c xs x W (by omega) (by omega) (fun j hj => by
        rw [hb]
        refine hc j _ ?_
        rw [List.getElem?_map, List.getElem?_eq_getElem hj]
        simp [List.getD_eq_getElem?_getD, List.getElem?_eq_getElem hj])
    rw [List.take_of_length_le (by omega)] at cC
    have hcs : xs.contains x = allowsL xs x := by
      unfold allowsL
      rw [he, Bool.false_or]
    rw [hcs] at cC
    have HC := Lib.hid cC
    have hn0 : ((n : Int) == 0) = false := by simp; omega
    clear cC hc hA hcs he
    generalize allowsL xs x = res at *
    go_enter Tryz.func83, Tryz.ntmps83
    go_wp2_with (go_at_call 124; refine (HC.out _ rfl).mono ?_; rintro e w2 ⟨rfl, rfl⟩)
    go_ret
    exact ⟨rfl, rfl⟩
theorem both1I (bx : Nat) (B : Option Addr) (nb cb : Nat) (ys : List Int) (x : Int) (W : World) (h0 : W.cell? ⟨bx, 0, none⟩ = some (.slice B nb cb)) (hB : Reads W 1 B nb (ys.map (.int .i64))) (hn : nb ≤ 1000000000) :
    Calls Tryz.prog 92 #[.int .i64 x, .pointer (some ⟨bx, 0, none⟩)] W fun e w' => e = .returned (.bool (!allowsL ys x)) ∧ w' = W := by
  have cA := allowsI_same B nb cb ys x W hB hn
  generalize allowsL ys x = r at *
  have HA := Lib.hid cA
  clear cA hB
  go_enter Tryz.func92, Tryz.ntmps92
  go_wp2_with (go_at_call 83; refine HA.out.mono ?_; rintro e w2 ⟨rfl, rfl⟩)
  go_ret
  exact ⟨rfl, rfl⟩
theorem zero3 (w : World) : (zeroValue 3).run Tryz.prog w = .ok (.int .i64 0) w := by kernel_rfl
theorem delI (base blk cap n bx : Nat) (B : Option Addr) (nb cb : Nat) (zs ys : List Int) (W : World) (h0 : W.cell? ⟨bx, 0, none⟩ = some (.slice B nb cb)) (hB : Reads W 1 B nb (ys.map (.int .i64))) (hnb : nb ≤ 1000000000) (hbx : bx < base) (hBl : 0 < nb → ∀ a, B = some a → a.block < base) (hbw : base ≤ W.heap.size)
    (hown : W.ownsRow base 3 1 (.slice (some ⟨blk, 0, none⟩) n cap) n (zs.map (.int .i64))) (hn : n ≤ 1000000000) :
    Calls Tryz.prog 90 #[.slice (some ⟨blk, 0, none⟩) n cap, .func (.func 92) #[] #[.pointer (some ⟨bx, 0, none⟩)]] W fun e w' => e = .returned (.slice (some ⟨blk, 0, none⟩) (zs.filter (allowsL ys)).length cap) ∧ Reads w' 1 (some ⟨blk, 0, none⟩) (zs.filter (allowsL ys)).length ((zs.filter (allowsL ys)).map (.int .i64)) ∧ Below base W w' := by
  have hl : zs.length = n := by have := hown.1; simp at this; omega
  subst hl
  have hbk : base ≤ blk := (hown.lt blk rfl).1
  have hblk : blk < W.heap.size := (hown.lt blk rfl).2
  have hcap : zs.length ≤ cap := ownsRow_cap hown
  have hH : Holds (Value.int .i64) W blk 0 zs.toArray := by
    intro j hj
    have hj' : j < zs.length := by simpa using hj
    refine ⟨?_, hown.frozenAt (0 + j)⟩
    have := hown.cellAt (0 + j) (by omega)
    rw [this]
    simp [List.getElem?_eq_getElem hj', getElem!_pos, hj']
  have key : ∀ V : World, (∀ a : Addr, a.block ≠ blk → a.block < W.heap.size → V.cell? a = W.cell? a) → ∀ x, FnGives Tryz.prog 92 #[.pointer (some ⟨bx, 0, none⟩)] #[(Value.int .i64) x] (.bool (!allowsL ys x)) V := by
    intro V hV x
    have hz0 : V.cell? ⟨bx, 0, none⟩ = some (.slice B nb cb) := (hV _ (by simp; omega) (by simp; omega)).trans h0
    have hzB : Reads V 1 B nb (ys.map (.int .i64)) := by
      refine ⟨hB.1, fun h => ?_⟩
      obtain ⟨b, o, rfl, hc⟩ := hB.2 h
      have := hBl h _ rfl
      simp only at this
      exact ⟨b, o, rfl, fun j u hu => (hV _ (by simp; omega) (by simp; omega)).trans (hc j u hu)⟩
    exact (both1I bx B nb cb ys x V hz0 hzB hnb).mono fun e w' ⟨h1, h2⟩ => ⟨h1, 0, by rw [h2]; rfl⟩
  have := Tryz.slices_DeleteFunc_f90 (Value.int .i64) (fun _ => rfl) (fun x => !allowsL ys x) 92 #[.pointer (some ⟨bx, 0, none⟩)] (enters_of Tryz.func92 (by kernel_rfl) rfl) (0 : Int) zero3 blk 0 cap zs.toArray W
    (fun V x hb => key V (fun a _ hl => hb.cell hl) x) (fun m os dk x _ => key _ (fun a h hl => put_cell (Value.int .i64) W m blk dk os a h hl) x) hH (by simp; omega) (by simpa using hcap)
  simp only [List.size_toArray, Bool.not_not] at this
  refine this.mono ?_
  rintro e w' ⟨rfl, q, rfl⟩
  refine ⟨rfl, ?_, ?_⟩
  · refine ⟨by simp, fun _ => ⟨blk, 0, rfl, fun j u hu => ?_⟩⟩
    rw [List.getElem?_map, Option.map_eq_some_iff] at hu
    obtain ⟨x, hx, rfl⟩ := hu
    have hjl := (List.getElem?_eq_some_iff.1 hx).1
    have hfl : (zs.filter (allowsL ys)).length ≤ zs.length := List.length_filter_le _ _
    have h1 := (holds_putRow (Value.int .i64) (Sort.ahead W q) blk 0 zs.toArray ((zs.filter (allowsL ys)) ++ List.replicate (zs.length - (zs.filter (allowsL ys)).length) (0 : Int)).toArray hH (by simp; omega) j (by simp; omega)).1
    rw [h1]
    congr 1
    congr 1
    have hj2 : j < (zs.filter (allowsL ys) ++ List.replicate (zs.length - (zs.filter (allowsL ys)).length) (0 : Int)).length := by simp; omega
    rw [getElem!_pos _ _ (by simpa using hj2)]
    simp only [List.getElem_toArray]
    rw [List.getElem_append_left hjl]
    exact (List.getElem?_eq_some_iff.1 hx).2
  · exact (Below.refl base W).grown (grownBy_putA (n := q) (Value.int .i64) _) hbw (fun k hk => by cases hk; exact hbk)
def BothPostI (xs ys : List Int) (w : World) (e : Ending) (w' : World) : Prop :=
  Below w.heap.size w w' ∧ ∃ S cs, e = .returned (.tuple #[.slice S (bothF xs ys).length cs, .bool (bothOk xs ys)]) ∧ Reads w' 1 S (bothF xs ys).length ((bothF xs ys).map (.int .i64)) ∧ (0 < (bothF xs ys).length → ∀ a, S = some a → w.heap.size ≤ a.block)
theorem delI0 (A : Option Addr) (c : Nat) (fv : Value) (w : World) : Calls Tryz.prog 90 #[.slice A 0 c, fv] w fun e w' => e = .returned (.slice A 0 c) ∧ w' = w := by
  have HC := Lib.hid (fun W => Tryz.slices_IndexFunc_empty_f128 (α := Int) A c fv W)
  go_enter Tryz.func90, Tryz.ntmps90
  go_wp2_with (go_at_call 128; refine (HC.out _).mono ?_; rintro e w2 ⟨rfl, rfl⟩)
  go_ret
  exact ⟨rfl, rfl⟩
theorem cloneI (A : Option Addr) (n c : Nat) (zs : List Int) (w : World) (hA : Reads w 1 A n (zs.map (.int .i64))) (h0 : 0 < n) (hn : n ≤ 1000000) : Calls Tryz.prog 91 #[.slice A n c] w fun e w' => ∃ g cap, e = .returned (.slice (some ⟨g, 0, none⟩) n cap) ∧ w'.ownsRow w.heap.size 3 1 (.slice (some ⟨g, 0, none⟩) n cap) n (zs.map (.int .i64)) ∧ Below w.heap.size w w' := by
  have hl : zs.length = n := by have := hA.1; simp at this; omega
  obtain ⟨b, o, rfl, hc⟩ := hA.2 h0
  refine (Tryz.slices_Clone_int b o n c zs w (by omega) (by omega) (fun j hj => ?_)).mono ?_
  · refine hc j _ ?_
    rw [List.getElem?_map, List.getElem?_eq_getElem hj]
    simp [List.getD_eq_getElem?_getD, List.getElem?_eq_getElem hj]
  · rintro e w' ⟨v', rfl, hown, _, hb⟩
    rw [List.take_of_length_le (by omega)] at hown
    rcases hown.2 with ⟨_, h⟩ | ⟨g, cap, cur, rfl, r⟩
    · omega
    · exact ⟨g, cap, rfl, hown, hb⟩
theorem cloneI0 (A : Option Addr) (c : Nat) (w : World) : Calls Tryz.prog 91 #[.slice A 0 c] w fun e w' => ∃ A' c', e = .returned (.slice A' 0 c') ∧ Below w.heap.size w w' := by
  cases A with
  | none => exact (Tryz.slices_Clone_int_nil 0 c w).mono fun e w' ⟨h1, h2⟩ => ⟨none, 0, h1, by rw [h2]; exact Below.refl _ _⟩
  | some a =>
    refine (Tryz.slices_Clone_int_zero a c w).mono ?_
    rintro e w' ⟨v', rfl, hown, _, hb⟩
    rcases hown.2 with ⟨rfl, _⟩ | ⟨g, cap, cur, rfl, r⟩
    · exact ⟨none, 0, rfl, hb⟩
    · exact ⟨_, _, rfl, hb⟩
set_option maxHeartbeats 4000000 in
theorem bothI_any (A : Option Addr) (na ca : Nat) (B : Option Addr) (nb cb : Nat) (xs ys : List Int) (w : World) (hA : Reads w 1 A na (xs.map (.int .i64))) (hB : Reads w 1 B nb (ys.map (.int .i64))) (h1 : na ≤ 1000000) (h2 : nb ≤ 1000000) :
    Calls Tryz.prog 36 #[.slice A na ca, .slice B nb cb] w (BothPostI xs ys w) := by
  have hla : xs.length = na := by have := hA.1; simp at this; omega
  have hlb : ys.length = nb := by have := hB.1; simp at this; omega
  have hbl := fun (h : 0 < nb) => reads_lt0 hB h
  have gen : ∀ (L : Option Addr) (n c : Nat) (zs : List Int), Reads w 1 L n (zs.map (.int .i64)) → 0 < n → n ≤ 1000000 → (∀ W, Below w.heap.size w W → Calls Tryz.prog 91 #[.slice L n c] W fun e w' => ∃ g cap, e = .returned (.slice (some ⟨g, 0, none⟩) n cap) ∧ w'.ownsRow W.heap.size 3 1 (.slice (some ⟨g, 0, none⟩) n cap) n (zs.map (.int .i64)) ∧ Below W.heap.size W w') ∧
      (∀ (g cap : Nat) (W : World), W.cell? ⟨w.heap.size, 0, none⟩ = some (.slice B nb cb) → Below w.heap.size w W → W.ownsRow (w.heap.size + 1) 3 1 (.slice (some ⟨g, 0, none⟩) n cap) n (zs.map (.int .i64)) → Calls Tryz.prog 90 #[.slice (some ⟨g, 0, none⟩) n cap, .func (.func 92) #[] #[.pointer (some ⟨w.heap.size, 0, none⟩)]] W fun e w' => e = .returned (.slice (some ⟨g, 0, none⟩) (zs.filter (allowsL ys)).length cap) ∧ Reads w' 1 (some ⟨g, 0, none⟩) (zs.filter (allowsL ys)).length ((zs.filter (allowsL ys)).map (.int .i64)) ∧ Below (w.heap.size + 1) W w') := by
    intro L n c zs hL h0 hn
    refine ⟨fun W hb => cloneI L n c zs W (hL.keep hb) h0 hn, fun g cap W c0 hb hown => ?_⟩
    exact delI (w.heap.size + 1) g cap n w.heap.size B nb cb zs ys W c0 (hB.keep hb) (by omega) (by omega) (fun h a ha => by have := hbl h a ha; omega) (by have := cell_lt c0; simp only at this; omega) hown (by omega)
  obtain ⟨F, hF⟩ : ∃ F, F = bothF xs ys := ⟨_, rfl⟩
  obtain ⟨K, hK⟩ : ∃ K, K = bothOk xs ys := ⟨_, rfl⟩
  unfold BothPostI
  rw [← hF, ← hK]
  unfold bothF at hF
  unfold bothOk bothF at hK
  by_cases ha : na = 0
  · subst ha
    obtain rfl : xs = [] := List.eq_nil_of_length_eq_zero hla
    simp only [List.isEmpty_nil, if_true] at hF hK
    by_cases hb0 : nb = 0
    · subst hb0
      obtain rfl : ys = [] := List.eq_nil_of_length_eq_zero hlb
      obtain rfl : F = [] := hF
      obtain rfl : K = true := hK
      have HC := Lib.hid (fun W => cloneI0 B cb W)
      have HD := Lib.hid (fun A c fv W => delI0 A c fv W)
      clear gen hA hB hbl hla hlb
      go_enter Tryz.func36, Tryz.ntmps36
      go_wp2_with (first | (go_at_call 91; refine (HC.out _).mono ?_; rintro e w2 ⟨A', c', rfl, hb2⟩) | (go_at_call 90; refine (HD.out _ _ _ _).mono ?_; rintro e w3 ⟨rfl, rfl⟩))
      go_ret2
      exact ⟨by (repeat (first | exact .refl _ _ | assumption | refine .drew ?_ | refine balloc ?_ _ | refine bdrewN ?_ _ | refine .setCell ?_ (by simp <;> omega) _ | refine bstep ?_ (by assumption))), A', c', rfl, Reads.nil_ _ _ _, fun h => absurd h (by simp)⟩
    · obtain ⟨hC, hD⟩ := gen B nb cb ys hB (by omega) h2
      have hye : ys.isEmpty = false := by cases ys; simp at hlb; omega; rfl
      rw [← hF, hye, Bool.or_false] at hK
      rw [← hF] at hD
      have HC := Lib.hid hC
      have HD := Lib.hid hD
      have hlen : (!F.isEmpty) = decide (0 < F.length) := by cases F <;> simp
      rw [hlen] at hK
      have e0 : ((nb : Int) == 0) = false := by simp; omega
      generalize hm : F.length = m at *
      clear gen hA hB hbl hF hla hlb hC hD hye hlen hm
      by_cases hm0 : 0 < m
      · obtain rfl : K = true := by rw [hK]; simpa using hm0
        have e1 : (0 : Int) < (m : Int) := by omega
        clear hK
        go_enter Tryz.func36, Tryz.ntmps36
        go_wp2_with (first | (go_at_call 91; refine (HC.out _ (by (repeat (first | exact .refl _ _ | assumption | refine .drew ?_ | refine balloc ?_ _ | refine bdrewN ?_ _ | refine .setCell ?_ (by simp <;> omega) _ | refine bstep ?_ (by assumption))))).mono ?_; rintro e w2 ⟨g, cap, rfl, hown, hb2⟩; have c0 := cell_keep hb2 (Boxed.new w 23 (.slice B nb cb)).cell; have hown2 := (show w2.ownsRow (w.heap.size + 1) _ _ _ _ _ from (by simpa using hown)); have hbk := (hown2.lt g rfl).1; clear hown) | (go_at_call 90; refine (HD.out _ _ _ c0 (by (repeat (first | exact .refl _ _ | assumption | refine .drew ?_ | refine balloc ?_ _ | refine bdrewN ?_ _ | refine .setCell ?_ (by simp <;> omega) _ | refine bstep ?_ (by assumption)))) hown2).mono ?_; rintro e w3 ⟨rfl, hR, hb3⟩))
        go_ret2
        exact ⟨bstep (balloc (Below.refl _ _) _) (hb2.trans (hb3.mono (by simp))), _, _, rfl, hR, fun _ a ha => (by cases ha; show w.heap.size ≤ g; omega)⟩
      · obtain rfl : K = false := by rw [hK]; simpa using hm0
        obtain rfl : m = 0 := by omega
        clear hK
        go_enter Tryz.func36, Tryz.ntmps36
        go_wp2_with (first | (go_at_call 91; refine (HC.out _ (by (repeat (first | exact .refl _ _ | assumption | refine .drew ?_ | refine balloc ?_ _ | refine bdrewN ?_ _ | refine .setCell ?_ (by simp <;> omega) _ | refine bstep ?_ (by assumption))))).mono ?_; rintro e w2 ⟨g, cap, rfl, hown, hb2⟩; have c0 := cell_keep hb2 (Boxed.new w 23 (.slice B nb cb)).cell; have hown2 := (show w2.ownsRow (w.heap.size + 1) _ _ _ _ _ from (by simpa using hown)); have hbk := (hown2.lt g rfl).1; clear hown) | (go_at_call 90; refine (HD.out _ _ _ c0 (by (repeat (first | exact .refl _ _ | assumption | refine .drew ?_ | refine balloc ?_ _ | refine bdrewN ?_ _ | refine .setCell ?_ (by simp <;> omega) _ | refine bstep ?_ (by assumption)))) hown2).mono ?_; rintro e w3 ⟨rfl, hR, hb3⟩))
        go_ret2
        exact ⟨bstep (balloc (Below.refl _ _) _) (hb2.trans (hb3.mono (by simp))), _, _, rfl, hR, fun _ a ha => (by cases ha; show w.heap.size ≤ g; omega)⟩
  · obtain ⟨hC, hD⟩ := gen A na ca xs hA (by omega) h1
    have hxe : xs.isEmpty = false := by cases xs; simp at hla; omega; rfl
    rw [hxe] at hF hK
    simp only [Bool.false_eq_true, if_false] at hF hK
    rw [← hF, hxe, Bool.or_false] at hK
    rw [← hF] at hD
    have HC := Lib.hid hC
    have HD := Lib.hid hD
    have hlen : (!F.isEmpty) = decide (0 < F.length) := by cases F <;> simp
    rw [hlen] at hK
    have e0 : ((na : Int) == 0) = false := by simp; omega
    generalize hm : F.length = m at *
    clear gen hA hB hbl hF hla hlb hC hD hxe hlen hm
    by_cases hm0 : 0 < m
    · obtain rfl : K = true := by rw [hK]; simpa using hm0
      have e1 : (0 : Int) < (m : Int) := by omega
      clear hK
      go_enter Tryz.func36, Tryz.ntmps36
      go_wp2_with (first | (go_at_call 91; refine (HC.out _ (by (repeat (first | exact .refl _ _ | assumption | refine .drew ?_ | refine balloc ?_ _ | refine bdrewN ?_ _ | refine .setCell ?_ (by simp <;> omega) _ | refine bstep ?_ (by assumption))))).mono ?_; rintro e w2 ⟨g, cap, rfl, hown, hb2⟩; have c0 := cell_keep hb2 (Boxed.new w 23 (.slice B nb cb)).cell; have hown2 := (show w2.ownsRow (w.heap.size + 1) _ _ _ _ _ from (by simpa using hown)); have hbk := (hown2.lt g rfl).1; clear hown) | (go_at_call 90; refine (HD.out _ _ _ c0 (by (repeat (first | exact .refl _ _ | assumption | refine .drew ?_ | refine balloc ?_ _ | refine bdrewN ?_ _ | refine .setCell ?_ (by simp <;> omega) _ | refine bstep ?_ (by assumption)))) hown2).mono ?_; rintro e w3 ⟨rfl, hR, hb3⟩))
      go_ret2
      exact ⟨bstep (balloc (Below.refl _ _) _) (hb2.trans (hb3.mono (by simp))), _, _, rfl, hR, fun _ a ha => (by cases ha; show w.heap.size ≤ g; omega)⟩
    · obtain rfl : K = false := by rw [hK]; simpa using hm0
      obtain rfl : m = 0 := by omega
      clear hK
      go_enter Tryz.func36, Tryz.ntmps36
      go_wp2_with (first | (go_at_call 91; refine (HC.out _ (by (repeat (first | exact .refl _ _ | assumption | refine .drew ?_ | refine balloc ?_ _ | refine bdrewN ?_ _ | refine .setCell ?_ (by simp <;> omega) _ | refine bstep ?_ (by assumption))))).mono ?_; rintro e w2 ⟨g, cap, rfl, hown, hb2⟩; have c0 := cell_keep hb2 (Boxed.new w 23 (.slice B nb cb)).cell; have hown2 := (show w2.ownsRow (w.heap.size + 1) _ _ _ _ _ from (by simpa using hown)); have hbk := (hown2.lt g rfl).1; clear hown) | (go_at_call 90; refine (HD.out _ _ _ c0 (by (repeat (first | exact .refl _ _ | assumption | refine .drew ?_ | refine balloc ?_ _ | refine bdrewN ?_ _ | refine .setCell ?_ (by simp <;> omega) _ | refine bstep ?_ (by assumption)))) hown2).mono ?_; rintro e w3 ⟨rfl, hR, hb3⟩))
      go_ret2
      exact ⟨bstep (balloc (Below.refl _ _) _) (hb2.trans (hb3.mono (by simp))), _, _, rfl, hR, fun _ a ha => (by cases ha; show w.heap.size ≤ g; omega)⟩
end Go.Proofs.YtocgkpdolgnbgaaGreatDoor
