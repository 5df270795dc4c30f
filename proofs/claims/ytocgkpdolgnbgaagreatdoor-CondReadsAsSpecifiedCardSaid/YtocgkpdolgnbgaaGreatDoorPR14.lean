/- What the specification's Parse of conditions returns. -/
import Derived.Test.YtocgkpdolgnbgaaGreatDoorPR12
import Derived.Test.YtocgkpdolgnbgaaGreatDoorPGM
import Derived.Test.YtocgkpdolgnbgaaGreatDoorPGN
import Derived.Test.YtocgkpdolgnbgaaGreatDoorPGL
import Derived.Test.YtocgkpdolgnbgaaGreatDoorPC30G
import Derived.Test.YtocgkpdolgnbgaaGreatDoorProg
import Derived.WalkKit
import Derived.WalkSpells
import Derived.WalkLawsBesides
import Derived.Below
import Derived.Deep.QuietTactic
import Derived.BigQuiet
import Derived.Lib.QuietBelow
import Derived.Lib.Strings
import Derived.Lib.Hide
import Derived.Deep.RegionWith
import Derived.Deep.RegionHeld3
import Derived.Lib.IndexBytes
namespace Go.Proofs.YtocgkpdolgnbgaaGreatDoor
open Go.RowKit Go.Sort
set_option linter.unusedVariables false
set_option linter.unusedSimpArgs false
set_option maxRecDepth 100000
theorem OfType.of_own {w : World} {base n c : Nat} {e : TypeId} {A : Option Addr} {xs : List Value} (h : w.ownsRow base e 1 (.slice A n c) n xs) : OfType w A n e := fun h0 => by
  rcases h.2 with ⟨_, h1⟩ | ⟨g, cap, cur, hv, _, hB, _⟩
  · omega
  · injection hv with hv
    exact ⟨g, 0, cur, (0, 0), hv, hB⟩
set_option maxHeartbeats 2000000 in
theorem rListOwn (s : ByteArray) (w : World) (hs : s.size ≤ 4294967281) : Calls Tryz.prog 67 #[.string s] w (OwnPost (listP s) w) := by
  have cF := fun W => rFields_any s 44 W hs
  unfold listP
  by_cases h : s.data.toList = [126]
  · have e1 : (s.toList == [126]) = true := by rw [Lib.toList_data]; simpa using h
    have e2 : s.toList = [126] := by rw [Lib.toList_data]; exact h
    rw [if_pos h]
    go_enter Tryz.func67, Tryz.ntmps67
    go_wp2
    go_ret
    exact ⟨none, 0, rfl, World.ownsRow_nil _ _ _ _, by (repeat (first | exact .refl _ _ | assumption | refine .drew ?_ | refine balloc ?_ _ | refine bdrewN ?_ _ | refine .setCell ?_ (by simp <;> omega) _ | refine bstep ?_ (by assumption)))⟩
  · have e1 : (s.toList == [126]) = false := by rw [Lib.toList_data]; simpa using h
    have e2 : ¬ s.toList = [126] := by rw [Lib.toList_data]; exact h
    rw [if_neg h]
    generalize splitB 44 s = ps at *
    have HF := Lib.hid cF
    clear cF
    go_enter Tryz.func67, Tryz.ntmps67
    go_wp2_with (go_at_call 65; refine (HF.out _).mono ?_; rintro e w2 ⟨A, c, rfl, hR, hb2⟩)
    go_ret
    exact ⟨A, c, rfl, hR, by (repeat (first | exact .refl _ _ | assumption | refine .drew ?_ | refine balloc ?_ _ | refine bdrewN ?_ _ | refine .setCell ?_ (by simp <;> omega) _ | refine bstep ?_ (by assumption)))⟩
structure Far (B g : Nat) (w w' : World) : Prop where
  os : w'.os = w.os
  tape : w'.tape = w.tape
  output : w'.output = w.output
  size : w.heap.size ≤ w'.heap.size
  block : ∀ k, k < B → k ≠ g → w'.heap[k]? = w.heap[k]?
section
variable {B g : Nat} {w w' w'' : World}
theorem Far.refl (B g : Nat) (w : World) : Far B g w w := ⟨rfl, rfl, rfl, Nat.le_refl _, fun _ _ _ => rfl⟩
theorem Far.trans (h : Far B g w w') (k : Far B g w' w'') : Far B g w w'' := ⟨k.os.trans h.os, k.tape.trans h.tape, k.output.trans h.output, Nat.le_trans h.size k.size, fun i h1 h2 => (k.block i h1 h2).trans (h.block i h1 h2)⟩
theorem Far.of_below (h : Below B w w') : Far B g w w' := ⟨h.os, h.tape, h.output, h.size, fun k hk _ => h.block k hk⟩
theorem Far.blk (h : Far B g w w') {b : Nat} {t : TypeId} {cs : Array Value} {fr : Nat × Nat} (hx : Blk w b t cs fr) (hb : b < B) (hn : b ≠ g) : Blk w' b t cs fr := (h.block b hb hn).trans hx
theorem Far.reads (h : Far B g w w') {A : Option Addr} {n : Nat} {vs : List Value} (hR : Reads w 1 A n vs) (hn : 0 < n → ∀ a, A = some a → a.block < B ∧ a.block ≠ g) : Reads w' 1 A n vs := by
  refine ⟨hR.1, fun h0 => ?_⟩
  obtain ⟨b, o, e, hc⟩ := hR.2 h0
  exact ⟨b, o, e, fun j u hu => (World.cell?_of_block (h.block b (hn h0 _ e).1 (hn h0 _ e).2)).trans (hc j u hu)⟩
theorem Far.below (h : Far B g w w') {B0 : Nat} (h1 : B0 ≤ g) (h2 : B0 ≤ B) : Below B0 w w' := ⟨h.os, h.tape, h.output, h.size, fun k hk => h.block k (by omega) (by omega)⟩
end
def D4 (b o c H : Nat) (F0 F1 F3 F4 F6 : ByteArray) (j : Nat) (v : Value) (w : World) : Prop :=
  match j with
  | 0 => v = .slice (some ⟨b, o, none⟩) 7 c
  | 1 => v = .pointer (some ⟨b, o, none⟩)
  | 2 => v = .string F0
  | 3 => v = .int .i64 (numR F0)
  | 4 => v = .slice (some ⟨b, o, none⟩) 7 c
  | 5 => v = .pointer (some ⟨b, o + 1, none⟩)
  | 6 => v = .string F1
  | 7 => v = .int .i64 (numR F1)
  | 8 => v = .slice (some ⟨b, o, none⟩) 7 c
  | 9 => v = .pointer (some ⟨b, o + 3, none⟩)
  | 10 => v = .string F3
  | 11 => ∃ A3 c3, v = .slice A3 (listP F3).length c3 ∧ Reads w 1 A3 (listP F3).length ((listP F3).map .string) ∧ OfType w A3 (listP F3).length 9
  | 12 => v = .slice (some ⟨b, o, none⟩) 7 c
  | 13 => v = .pointer (some ⟨b, o + 4, none⟩)
  | 14 => v = .string F4
  | 15 => ∃ A4 c4, v = .slice A4 (listP F4).length c4 ∧ Reads w 1 A4 (listP F4).length ((listP F4).map .string) ∧ OfType w A4 (listP F4).length 9
  | 16 => v = .slice (some ⟨b, o, none⟩) 7 c
  | 17 => v = .pointer (some ⟨b, o + 6, none⟩)
  | 18 => v = .string F6
  | 19 => v = .int .i64 (numR F6)
  | 20 => ∃ A3 c3 A4 c4, v = .agg #[.int .i64 (numR F0), .int .i64 (numR F1), .string ⟨#[]⟩, .slice A3 (listP F3).length c3, .slice A4 (listP F4).length c4, .slice none 0 0, .int .i64 (numR F6)] ∧ Reads w 1 A3 (listP F3).length ((listP F3).map .string) ∧ OfType w A3 (listP F3).length 9 ∧ Reads w 1 A4 (listP F4).length ((listP F4).map .string) ∧ OfType w A4 (listP F4).length 9
  | 21 => ∃ g, v = .pointer (some ⟨g, 0, none⟩) ∧ H ≤ g ∧ CBox w g 0 0 ⟨#[]⟩ none 0 0 none 0 0 none 0 0 0
  | _ => True
theorem D4.keep {b o c H : Nat} {F0 F1 F3 F4 F6 : ByteArray} (j : Nat) (v : Value) (w w' : World) (h : D4 b o c H F0 F1 F3 F4 F6 j v w) (hb : Below w.heap.size w w') : D4 b o c H F0 F1 F3 F4 F6 j v w' := by
  unfold D4 at h
  split at h
  all_goals first
    | exact h
    | (obtain ⟨A, c, e, hR, hT⟩ := h; exact ⟨A, c, e, hR.keep hb, hT.keep hb⟩)
    | (obtain ⟨A3, c3, A4, c4, e, r1, u1, r2, u2⟩ := h; exact ⟨A3, c3, A4, c4, e, r1.keep hb, u1.keep hb, r2.keep hb, u2.keep hb⟩)
    | (obtain ⟨g, e, hg, hx⟩ := h; exact ⟨g, e, hg, Blk.keep hx hb⟩)
    | (unfold D4; split <;> first | trivial | (exfalso; simp_all; done))
def E11 (g : Nat) (AS : Option Addr) (k cS qb qo n cl : Nat) (x : ByteArray) (j : Nat) (v : Value) (w : World) : Prop :=
  match j with
  | 0 => v = .pointer (some ⟨g, 5, none⟩)
  | 1 => v = .slice AS k cS
  | 2 => v = .slice (some ⟨qb, qo, none⟩) n cl
  | 3 => v = .int .i64 k
  | 4 => v = .pointer (some ⟨qb, qo + k, none⟩)
  | 5 => v = .string x
  | 6 => v = .int .i64 (numR x)
  | 7 => ∃ bb, v = .slice (some ⟨bb, 0, none⟩) 1 1 ∧ w.cell? ⟨bb, 0, none⟩ = some (.int .i64 (numR x))
  | _ => True
theorem E11.keep {g : Nat} {AS : Option Addr} {k cS qb qo n cl : Nat} {x : ByteArray} (j : Nat) (v : Value) (w w' : World) (h : E11 g AS k cS qb qo n cl x j v w) (hb : Below w.heap.size w w') : E11 g AS k cS qb qo n cl x j v w' := by
  unfold E11 at h
  split at h
  all_goals first
    | exact h
    | (obtain ⟨b, e, hc⟩ := h; exact ⟨b, e, cell_keep hb hc⟩)
    | (unfold E11; split <;> first | trivial | (exfalso; simp_all; done))
set_option maxHeartbeats 16000000 in
theorem rParse21_any (s : ByteArray) (w : World) (hs : s.size ≤ 100000) :
    Calls Tryz.prog 21 #[.string s] w (RMadePost ((readR s).getD zeroC) (if (readR s).isSome then 0 else 3) w) := by
  have hz : ∀ k, ((splitB 32 s).getD k tilde).size ≤ 100000 := by
    intro k
    rw [List.getD_eq_getElem?_getD]
    cases h : (splitB 32 s)[k]? with
    | none => show tilde.size ≤ _; decide
    | some x => have := splitB_size 32 s x (List.mem_of_getElem? h); simp; omega
  have hf := fun W => rFields_any s 32 W (by omega)
  obtain ⟨X, hX⟩ : ∃ X, X = (readR s).getD zeroC := ⟨_, rfl⟩
  obtain ⟨ER, hER⟩ : ∃ x : Int, x = (if (readR s).isSome then 0 else 3) := ⟨_, rfl⟩
  rw [← hX, ← hER]
  unfold readR at hX hER
  have hft := condF_fits numR (splitB 32 s) (field_size s hs)
  have hsz : ∀ x ∈ splitB 32 s, x.size ≤ 100000 := fun x hx => by have := splitB_size 32 s x hx; omega
  generalize splitB 32 s = Ls at *
  have HFT := Lib.hid hft; have HSZ := Lib.hid hsz; clear hft hsz
  have HF := Lib.hid hf; have HX := Lib.hid hX; have HER := Lib.hid hER; have HZ0 := Lib.hid hz
  clear hf hX hER hz
  go_enter Tryz.func21, Tryz.ntmps21
  go_upto_region 2 with (go_at_call 65; refine (HF.out _).mono ?_; rintro e w2 ⟨A, c, rfl, hown, hb2⟩)
  have hM : Blk w2 w.heap.size 40 #[.int .i64 0, .int .i64 0, .string ⟨#[]⟩, .slice none 0 0, .slice none 0 0, .slice none 0 0, .int .i64 0, .int .i64 0] (0, 0) := Blk.keep (World.alloc_heap_new _ _) hb2
  have hbw : Below w.heap.size w w2 := (balloc (Below.refl _ _) _).trans (hb2.mono (by simp))
  have hRd := Reads.of_own hown
  clear hown hb2 HF
  obtain ⟨n, hn⟩ : ∃ n, n = Ls.length := ⟨_, rfl⟩
  rw [← hn] at hRd ⊢
  by_cases h7 : n = 7
  · subst h7
    obtain ⟨F0, F1, F2, F3, F4, F5, F6, rfl⟩ := list7 hn.symm
    obtain ⟨b, o, rfl, hcell⟩ := hRd.2 (by decide)
    have hlb : b < w2.heap.size := reads_lt hRd (by decide) _ rfl
    have hc0 : w2.cell? ⟨b, o, none⟩ = some (.string F0) := hcell 0 _ rfl
    have hc1 : w2.cell? ⟨b, o + 1, none⟩ = some (.string F1) := hcell 1 _ rfl
    have hc2 : w2.cell? ⟨b, o + 2, none⟩ = some (.string F2) := hcell 2 _ rfl
    have hc3 : w2.cell? ⟨b, o + 3, none⟩ = some (.string F3) := hcell 3 _ rfl
    have hc4 : w2.cell? ⟨b, o + 4, none⟩ = some (.string F4) := hcell 4 _ rfl
    have hc5 : w2.cell? ⟨b, o + 5, none⟩ = some (.string F5) := hcell 5 _ rfl
    have hc6 : w2.cell? ⟨b, o + 6, none⟩ = some (.string F6) := hcell 6 _ rfl
    have hbd : w2.heap.size ≤ w2.drew.heap.size := Nat.le_refl _
    have HC0 := Lib.hid (cell_keep (Below.drew (Below.refl _ _)) hc0); have HC1 := Lib.hid (cell_keep (Below.drew (Below.refl _ _)) hc1); have HC3 := Lib.hid (cell_keep (Below.drew (Below.refl _ _)) hc3); have HC4 := Lib.hid (cell_keep (Below.drew (Below.refl _ _)) hc4); have HC6 := Lib.hid (cell_keep (Below.drew (Below.refl _ _)) hc6)
    have HC2 := Lib.hid hc2; have HC5 := Lib.hid hc5
    have HZ : Hid (F0.size ≤ 4294967281 ∧ F1.size ≤ 4294967281 ∧ F3.size ≤ 4294967281 ∧ F4.size ≤ 4294967281 ∧ F6.size ≤ 4294967281) := Lib.hid ⟨Nat.le_trans (HZ0.out 0) (by decide), Nat.le_trans (HZ0.out 1) (by decide), Nat.le_trans (HZ0.out 3) (by decide), Nat.le_trans (HZ0.out 4) (by decide), Nat.le_trans (HZ0.out 6) (by decide)⟩
    have hz5 : F5.size ≤ 100000 := HZ0.out 5
    clear hc0 hc1 hc2 hc3 hc4 hc5 hc6 hcell hRd hn hbd
    go_upto_region 4 with fail
    go_cut [4] (fun v wx => ∃ g, v = .pointer (some ⟨g, 0, none⟩) ∧ (w2.heap.size ≤ g ∧ g < wx.heap.size) ∧ (∃ A3 c3 A4 c4, CBox wx g (numR F0) (numR F1) ⟨#[]⟩ A3 (listP F3).length c3 A4 (listP F4).length c4 none 0 0 (numR F6) ∧ (Reads wx 1 A3 (listP F3).length ((listP F3).map .string) ∧ Reads wx 1 A4 (listP F4).length ((listP F4).map .string)) ∧ (0 < (listP F3).length → ∀ a, A3 = some a → a.block ≠ g) ∧ (0 < (listP F4).length → ∀ a, A4 = some a → a.block ≠ g) ∧ (0 < (listP F3).length → ∀ a, A3 = some a → a.block ≠ w.heap.size) ∧ (0 < (listP F4).length → ∀ a, A4 = some a → a.block ≠ w.heap.size)) ∧ Below w2.heap.size w2 wx)
    case first =>
      refine wp_free 22 (by kernel_rfl) (by kernel_rfl) (fun a b => Below a.heap.size a b) (fun a => Below.refl _ _) (fun a b c h k => h.trans (k.mono h.size)) (D4 b o c w2.heap.size F0 F1 F3 F4 F6) D4.keep (fun _ _ => True) trivial ?_ ?_
      · skip
        refine ops_cons ?_ (ops_cons ?_ (ops_cons ?_ (ops_cons ?_ (ops_cons ?_ (ops_cons ?_ (ops_cons ?_ (ops_cons ?_ (ops_cons ?_ (ops_cons ?_ (ops_cons ?_ (ops_cons ?_ (ops_cons ?_ (ops_cons ?_ (ops_cons ?_ (ops_cons ?_ (ops_cons ?_ (ops_cons ?_ (ops_cons ?_ (ops_cons ?_ (ops_cons ?_ (ops_cons ?_ (ops_nil))))))))))))))))))))))
        · intro ho L a W hC hi hl hJ hG hA hd
          have t3 : a.eval (.tmp 3) = .slice (some ⟨b, o, none⟩) 7 c := agree_eval hA (by kernel_rfl)
          have u3 := (tmp_eq a 3).trans t3
          exact free_step (W' := W) ho rfl (by simp [go_sem, execOp, u3]) ⟨rfl, Below.refl _ _, trivial⟩
        · intro ho L a W hC hi hl hJ hG hA hd
          have t14 : a.eval (.tmp 14) = .slice (some ⟨b, o, none⟩) 7 c := by have := hd _ (Array.mem_of_getElem? (i := 0) rfl) rfl; exact this
          have u14 := (tmp_eq a 14).trans t14
          exact free_step (W' := W) ho rfl (by simp [go_sem, execOp, u14]) ⟨rfl, Below.refl _ _, trivial⟩
        · intro ho L a W hC hi hl hJ hG hA hd
          have t15 : a.eval (.tmp 15) = .pointer (some ⟨b, o, none⟩) := by have := hd _ (Array.mem_of_getElem? (i := 0) rfl) rfl; exact this
          have u15 := (tmp_eq a 15).trans t15
          have hcj := cell_keep hG (HC0.out)
          exact free_step (W' := W) ho rfl (by simp [go_sem, execOp, u15, hcj]) ⟨rfl, Below.refl _ _, trivial⟩
        · intro ho L a W hC hi hl hJ hG hA hd
          have t16 : a.eval (.tmp 16) = .string F0 := by have := hd _ (Array.mem_of_getElem? (i := 0) rfl) rfl; exact this
          have u16 := (tmp_eq a 16).trans t16
          refine free_call (f := 66) (args := #[.string F0]) ho rfl (by simp [go_sem, execOp, u16]) ?_
          refine (rNumber_any F0 W (HZ.out.1)).mono ?_
          rintro e W' ⟨rfl, hb'⟩
          exact ⟨_, rfl, rfl, hb', trivial⟩
        · intro ho L a W hC hi hl hJ hG hA hd
          have t3 : a.eval (.tmp 3) = .slice (some ⟨b, o, none⟩) 7 c := agree_eval hA (by kernel_rfl)
          have u3 := (tmp_eq a 3).trans t3
          exact free_step (W' := W) ho rfl (by simp [go_sem, execOp, u3]) ⟨rfl, Below.refl _ _, trivial⟩
        · intro ho L a W hC hi hl hJ hG hA hd
          have t18 : a.eval (.tmp 18) = .slice (some ⟨b, o, none⟩) 7 c := by have := hd _ (Array.mem_of_getElem? (i := 0) rfl) rfl; exact this
          have u18 := (tmp_eq a 18).trans t18
          exact free_step (W' := W) ho rfl (by simp [go_sem, execOp, u18]) ⟨rfl, Below.refl _ _, trivial⟩
        · intro ho L a W hC hi hl hJ hG hA hd
          have t19 : a.eval (.tmp 19) = .pointer (some ⟨b, o + 1, none⟩) := by have := hd _ (Array.mem_of_getElem? (i := 0) rfl) rfl; exact this
          have u19 := (tmp_eq a 19).trans t19
          have hcj := cell_keep hG (HC1.out)
          exact free_step (W' := W) ho rfl (by simp [go_sem, execOp, u19, hcj]) ⟨rfl, Below.refl _ _, trivial⟩
        · intro ho L a W hC hi hl hJ hG hA hd
          have t20 : a.eval (.tmp 20) = .string F1 := by have := hd _ (Array.mem_of_getElem? (i := 0) rfl) rfl; exact this
          have u20 := (tmp_eq a 20).trans t20
          refine free_call (f := 66) (args := #[.string F1]) ho rfl (by simp [go_sem, execOp, u20]) ?_
          refine (rNumber_any F1 W (HZ.out.2.1)).mono ?_
          rintro e W' ⟨rfl, hb'⟩
          exact ⟨_, rfl, rfl, hb', trivial⟩
        · intro ho L a W hC hi hl hJ hG hA hd
          have t3 : a.eval (.tmp 3) = .slice (some ⟨b, o, none⟩) 7 c := agree_eval hA (by kernel_rfl)
          have u3 := (tmp_eq a 3).trans t3
          exact free_step (W' := W) ho rfl (by simp [go_sem, execOp, u3]) ⟨rfl, Below.refl _ _, trivial⟩
        · intro ho L a W hC hi hl hJ hG hA hd
          have t22 : a.eval (.tmp 22) = .slice (some ⟨b, o, none⟩) 7 c := by have := hd _ (Array.mem_of_getElem? (i := 0) rfl) rfl; exact this
          have u22 := (tmp_eq a 22).trans t22
          exact free_step (W' := W) ho rfl (by simp [go_sem, execOp, u22]) ⟨rfl, Below.refl _ _, trivial⟩
        · intro ho L a W hC hi hl hJ hG hA hd
          have t23 : a.eval (.tmp 23) = .pointer (some ⟨b, o + 3, none⟩) := by have := hd _ (Array.mem_of_getElem? (i := 0) rfl) rfl; exact this
          have u23 := (tmp_eq a 23).trans t23
          have hcj := cell_keep hG (HC3.out)
          exact free_step (W' := W) ho rfl (by simp [go_sem, execOp, u23, hcj]) ⟨rfl, Below.refl _ _, trivial⟩
        · intro ho L a W hC hi hl hJ hG hA hd
          have t24 : a.eval (.tmp 24) = .string F3 := by have := hd _ (Array.mem_of_getElem? (i := 0) rfl) rfl; exact this
          have u24 := (tmp_eq a 24).trans t24
          refine free_call (f := 67) (args := #[.string F3]) ho rfl (by simp [go_sem, execOp, u24]) ?_
          refine (rListOwn F3 W (HZ.out.2.2.1)).mono ?_
          rintro e W' ⟨A, c', rfl, ho', hb'⟩
          exact ⟨_, rfl, ⟨A, c', rfl, Reads.of_own ho', OfType.of_own ho'⟩, hb', trivial⟩
        · intro ho L a W hC hi hl hJ hG hA hd
          have t3 : a.eval (.tmp 3) = .slice (some ⟨b, o, none⟩) 7 c := agree_eval hA (by kernel_rfl)
          have u3 := (tmp_eq a 3).trans t3
          exact free_step (W' := W) ho rfl (by simp [go_sem, execOp, u3]) ⟨rfl, Below.refl _ _, trivial⟩
        · intro ho L a W hC hi hl hJ hG hA hd
          have t26 : a.eval (.tmp 26) = .slice (some ⟨b, o, none⟩) 7 c := by have := hd _ (Array.mem_of_getElem? (i := 0) rfl) rfl; exact this
          have u26 := (tmp_eq a 26).trans t26
          exact free_step (W' := W) ho rfl (by simp [go_sem, execOp, u26]) ⟨rfl, Below.refl _ _, trivial⟩
        · intro ho L a W hC hi hl hJ hG hA hd
          have t27 : a.eval (.tmp 27) = .pointer (some ⟨b, o + 4, none⟩) := by have := hd _ (Array.mem_of_getElem? (i := 0) rfl) rfl; exact this
          have u27 := (tmp_eq a 27).trans t27
          have hcj := cell_keep hG (HC4.out)
          exact free_step (W' := W) ho rfl (by simp [go_sem, execOp, u27, hcj]) ⟨rfl, Below.refl _ _, trivial⟩
        · intro ho L a W hC hi hl hJ hG hA hd
          have t28 : a.eval (.tmp 28) = .string F4 := by have := hd _ (Array.mem_of_getElem? (i := 0) rfl) rfl; exact this
          have u28 := (tmp_eq a 28).trans t28
          refine free_call (f := 67) (args := #[.string F4]) ho rfl (by simp [go_sem, execOp, u28]) ?_
          refine (rListOwn F4 W (HZ.out.2.2.2.1)).mono ?_
          rintro e W' ⟨A, c', rfl, ho', hb'⟩
          exact ⟨_, rfl, ⟨A, c', rfl, Reads.of_own ho', OfType.of_own ho'⟩, hb', trivial⟩
        · intro ho L a W hC hi hl hJ hG hA hd
          have t3 : a.eval (.tmp 3) = .slice (some ⟨b, o, none⟩) 7 c := agree_eval hA (by kernel_rfl)
          have u3 := (tmp_eq a 3).trans t3
          exact free_step (W' := W) ho rfl (by simp [go_sem, execOp, u3]) ⟨rfl, Below.refl _ _, trivial⟩
        · intro ho L a W hC hi hl hJ hG hA hd
          have t30 : a.eval (.tmp 30) = .slice (some ⟨b, o, none⟩) 7 c := by have := hd _ (Array.mem_of_getElem? (i := 0) rfl) rfl; exact this
          have u30 := (tmp_eq a 30).trans t30
          exact free_step (W' := W) ho rfl (by simp [go_sem, execOp, u30]) ⟨rfl, Below.refl _ _, trivial⟩
        · intro ho L a W hC hi hl hJ hG hA hd
          have t31 : a.eval (.tmp 31) = .pointer (some ⟨b, o + 6, none⟩) := by have := hd _ (Array.mem_of_getElem? (i := 0) rfl) rfl; exact this
          have u31 := (tmp_eq a 31).trans t31
          have hcj := cell_keep hG (HC6.out)
          exact free_step (W' := W) ho rfl (by simp [go_sem, execOp, u31, hcj]) ⟨rfl, Below.refl _ _, trivial⟩
        · intro ho L a W hC hi hl hJ hG hA hd
          have t32 : a.eval (.tmp 32) = .string F6 := by have := hd _ (Array.mem_of_getElem? (i := 0) rfl) rfl; exact this
          have u32 := (tmp_eq a 32).trans t32
          refine free_call (f := 66) (args := #[.string F6]) ho rfl (by simp [go_sem, execOp, u32]) ?_
          refine (rNumber_any F6 W (HZ.out.2.2.2.2)).mono ?_
          rintro e W' ⟨rfl, hb'⟩
          exact ⟨_, rfl, rfl, hb', trivial⟩
        · intro ho L a W hC hi hl hJ hG hA hd
          have t17 : a.eval (.tmp 17) = .int .i64 (numR F0) := by have := hd _ (Array.mem_of_getElem? (i := 0) rfl) rfl; exact this
          have u17 := (tmp_eq a 17).trans t17
          have t21 : a.eval (.tmp 21) = .int .i64 (numR F1) := by have := hd _ (Array.mem_of_getElem? (i := 1) rfl) rfl; exact this
          have u21 := (tmp_eq a 21).trans t21
          obtain ⟨A3, c3, t25, x25_0, x25_1⟩ : ∃ A3 c3, a.eval (.tmp 25) = .slice A3 (listP F3).length c3 ∧ Reads W 1 A3 (listP F3).length ((listP F3).map .string) ∧ OfType W A3 (listP F3).length 9 := by have := hd _ (Array.mem_of_getElem? (i := 2) rfl) rfl; exact this
          have u25 := (tmp_eq a 25).trans t25
          obtain ⟨A4, c4, t29, x29_0, x29_1⟩ : ∃ A4 c4, a.eval (.tmp 29) = .slice A4 (listP F4).length c4 ∧ Reads W 1 A4 (listP F4).length ((listP F4).map .string) ∧ OfType W A4 (listP F4).length 9 := by have := hd _ (Array.mem_of_getElem? (i := 3) rfl) rfl; exact this
          have u29 := (tmp_eq a 29).trans t29
          have t33 : a.eval (.tmp 33) = .int .i64 (numR F6) := by have := hd _ (Array.mem_of_getElem? (i := 4) rfl) rfl; exact this
          have u33 := (tmp_eq a 33).trans t33
          exact free_step (v := .agg #[.int .i64 (numR F0), .int .i64 (numR F1), .string ⟨#[]⟩, .slice A3 (listP F3).length c3, .slice A4 (listP F4).length c4, .slice none 0 0, .int .i64 (numR F6)]) (W' := W) ho rfl (by simp [go_sem, execOp, u17, u21, u25, u29, u33]) ⟨⟨A3, c3, A4, c4, rfl, x25_0, x25_1, x29_0, x29_1⟩, Below.refl _ _, trivial⟩
        · intro ho L a W hC hi hl hJ hG hA hd
          exact free_step (v := .pointer (some ⟨W.heap.size, 0, none⟩)) (W' := W.alloc (.cells #[.int .i64 0, .int .i64 0, .string ⟨#[]⟩, .slice none 0 0, .slice none 0 0, .slice none 0 0, .int .i64 0] 25)) ho rfl (by simp [go_sem, execOp]) ⟨⟨W.heap.size, rfl, hG.size, World.alloc_heap_new _ _⟩, balloc (Below.refl _ _) _, trivial⟩
      · intro vals w' hG _ hD
        obtain ⟨A3, c3, A4, c4, e20, q1, u1, q2, u2⟩ : ∃ A3 c3 A4 c4, vals 20 = .agg #[.int .i64 (numR F0), .int .i64 (numR F1), .string ⟨#[]⟩, .slice A3 (listP F3).length c3, .slice A4 (listP F4).length c4, .slice none 0 0, .int .i64 (numR F6)] ∧ Reads w' 1 A3 (listP F3).length ((listP F3).map .string) ∧ OfType w' A3 (listP F3).length 9 ∧ Reads w' 1 A4 (listP F4).length ((listP F4).map .string) ∧ OfType w' A4 (listP F4).length 9 := hD 20 (by omega)
        obtain ⟨g, e21, hg, hbox⟩ : ∃ g, vals 21 = .pointer (some ⟨g, 0, none⟩) ∧ w2.heap.size ≤ g ∧ CBox w' g 0 0 ⟨#[]⟩ none 0 0 none 0 0 none 0 0 0 := hD 21 (by omega)
        have hbd : Below w2.heap.size w2 w' := (Below.drew (Below.refl _ _)).trans hG
        dsimp only [List.drop, List.take, putL]
        rw [e20, e21]
        obtain ⟨x0, x1, x2, x3, x4, x5, x6⟩ := CBox.facts hbox
        have z0 := Blk.free0 hbox 0; have z1 := Blk.free0 hbox 1; have z2 := Blk.free0 hbox 2; have z3 := Blk.free0 hbox 3; have z4 := Blk.free0 hbox 4; have z5 := Blk.free0 hbox 5; have z6 := Blk.free0 hbox 6
        have hgl := Blk.lt hbox
        have hMd := Blk.keep hM hbd
        clear hG hD HC0 HC1 HC2 HC3 HC4 HC5 HC6
        go_wp2
        go_meet
        have hb7 := put_but (w := w') (g := g) (v0 := .int .i64 (numR F0)) (v1 := .int .i64 (numR F1)) (v2 := .string ⟨#[]⟩) (v3 := .slice A3 (listP F3).length c3) (v4 := .slice A4 (listP F4).length c4) (v5 := .slice none 0 0) (v6 := .int .i64 (numR F6))
        exact ⟨g, rfl, ⟨hg, Nat.lt_of_lt_of_le hgl hb7.size⟩, ⟨A3, c3, A4, c4, CBox.put hbox _ _ _ _ _ _ _ _ _ _ _ _ _, ⟨hb7.reads q1 (u1.off hbox (by decide)), hb7.reads q2 (u2.off hbox (by decide))⟩, u1.off hbox (by decide), u2.off hbox (by decide), u1.off hMd (by decide), u2.off hMd (by decide)⟩, hbd.trans (hb7.below hg hbd.size)⟩
    case rest =>
      clear HC0 HC1 HC3 HC4 HC6 HZ
      obtain ⟨g, rfl, ⟨hg, hgl⟩, ⟨A3, c3, A4, c4, hB, ⟨q1, q2⟩, o1, o2, ov3, ov4⟩, hb4⟩ := hcut
      have HV := Lib.hid (And.intro ov3 ov4)
      clear ov3 ov4
      have hM4 := Blk.keep hM hb4
      have hbw4 := bstep hbw hb4
      have hwg : w.heap.size < g := Nat.lt_of_lt_of_le (Blk.lt hM) hg
      have hc2 := cell_keep hb4 HC2.out
      have hc5 := cell_keep hb4 HC5.out
      have hbg : b ≠ g := by omega
      have l3 := reads_lt q1
      have l4 := reads_lt q2
      clear hM hbw HC2 HC5 hb4
      obtain ⟨x0, x1, x2, x3, x4, x5, x6⟩ := CBox.facts hB
      have z2 := Blk.free0 hB 2
      go_upto_if 38 with fail
      go_cut [] (fun wx => CBox wx g (numR F0) (numR F1) (unT F2) A3 (listP F3).length c3 A4 (listP F4).length c4 none 0 0 (numR F6) ∧ But g wc wx)
      case first =>
        clear l3 l4 hc5 hM4 hbw4 o1 o2 q1 q2
        by_cases hx : F2.data.toList = [126]
        · have e1 : (F2.toList == [126]) = true := by rw [Lib.toList_data]; simpa using hx
          have hU : unT F2 = ⟨#[]⟩ := by unfold unT; rw [if_pos hx]
          clear hx
          rw [e1]
          go_wp2
          go_meet
          rw [hU]
          exact ⟨hB, But.refl _ _⟩
        · have e1 : (F2.toList == [126]) = false := by rw [Lib.toList_data]; simpa using hx
          have hU : unT F2 = F2 := by unfold unT; rw [if_neg hx]
          clear hx
          rw [e1]
          go_wp2
          go_meet
          rw [hU]
          exact ⟨CBox.s2 hB _, But.set _ _ _ _⟩
      case rest =>
        clear x0 x1 x2 x3 x4 x5 x6 z2 hB hc2
        obtain ⟨hB, hbut⟩ := hcut
        have q1 := hbut.reads q1 o1
        have q2 := hbut.reads q2 o2
        have hM := hbut.blk hM4 (by omega)
        have hbw := hbw4.trans (hbut.below (B := w.heap.size) (by omega) hbw4.size)
        have hc5 := hbut.cell hc5 hbg
        have l3 := reads_lt q1
        have l4 := reads_lt q2
        have hgl2 := Nat.lt_of_lt_of_le hgl hbut.size
        obtain ⟨PT, hPT⟩ : ∃ P, P = unT F2 := ⟨_, rfl⟩
        rw [← hPT] at hB
        have HPT := Lib.hid hPT
        clear hPT hbut hM4 hbw4
        obtain ⟨X5, hX5⟩ : ∃ X, X = listP F5 := ⟨_, rfl⟩
        obtain ⟨n5, hn5⟩ : ∃ n, n = X5.length := ⟨_, rfl⟩
        have hxs : ∀ x ∈ X5, x.size ≤ 100000 := by rw [hX5]; intro x hx; have := listP_size F5 x hx; omega
        have hn5b : n5 ≤ 100001 := by rw [hn5, hX5]; have := listP_num F5; omega
        have hli : ∀ W, Calls Tryz.prog 67 #[.string F5] W fun e w' => ∃ A c, e = .returned (.slice A n5 c) ∧ w'.ownsRow W.heap.size 9 1 (.slice A n5 c) n5 (X5.map .string) ∧ Below W.heap.size W w' := by
          intro W
          have h := rListOwn F5 W (by omega)
          rw [hn5, hX5]
          exact h
        have HLI := Lib.hid hli; have HX5 := Lib.hid hX5; have HN5 := Lib.hid hn5; have HXS := Lib.hid hxs
        clear hli hX5 hn5 hxs
        obtain ⟨i0, hi0, hz0, hz1, hz2⟩ := info_parts infoInt7
        have HI : Hid ((Tryz.prog.info? 3 = some i0) ∧ i0.zero = some (.int .i64 0) ∧ i0.size = 1 ∧ i0.bytes = 8) := Lib.hid ⟨hi0, hz0, hz1, hz2⟩
        clear hi0 hz0 hz1 hz2
        have hwg2 : w.heap.size < g := hwg
        go_wp2_with (go_at_call 67; refine (HLI.out _).mono ?_; rintro e w3 ⟨AL, cl, rfl, howl, hb3⟩)
        clear hc5
        obtain ⟨hi, hhi⟩ : ∃ hi, hi = w3.heap.size := ⟨_, rfl⟩
        have hRl := Reads.of_own howl
        have l5 := reads_lt hRl
        have hs3 := hb3.size
        have hB3 : CBox w3 g (numR F0) (numR F1) PT A3 (listP F3).length c3 A4 (listP F4).length c4 none 0 0 (numR F6) := Blk.keep hB hb3
        have HH0 := Lib.hid (show (Reads w3 1 A3 (listP F3).length ((listP F3).map .string) ∧ Reads w3 1 A4 (listP F4).length ((listP F4).map .string) ∧ Reads w3 1 AL n5 (X5.map .string) ∧ Blk w3 w.heap.size 40 #[.int .i64 0, .int .i64 0, .string ⟨#[]⟩, .slice none 0 0, .slice none 0 0, .slice none 0 0, .int .i64 0, .int .i64 0] (0, 0) ∧ Below w.heap.size w w3) from ⟨q1.keep hb3, q2.keep hb3, hRl, Blk.keep hM hb3, bstep hbw hb3⟩)
        have hl3 : 0 < (listP F3).length → ∀ a, A3 = some a → a.block < hi := fun h0 a ha => by have := l3 h0 a ha; omega
        have hl4 : 0 < (listP F4).length → ∀ a, A4 = some a → a.block < hi := fun h0 a ha => by have := l4 h0 a ha; omega
        have hl5 : 0 < n5 → ∀ a, AL = some a → a.block < hi := by rw [hhi]; exact l5
        have hgi : g < hi := by omega
        have hhi2 : hi ≤ w3.heap.size := Nat.le_of_eq hhi
        have HO : Hid (w.heap.size < g ∧ w.heap.size < hi) := Lib.hid ⟨hwg2, by omega⟩
        have HL : Hid ((0 < (listP F3).length → ∀ a, A3 = some a → a.block < hi) ∧ (0 < (listP F4).length → ∀ a, A4 = some a → a.block < hi) ∧ (0 < n5 → ∀ a, AL = some a → a.block < hi)) := Lib.hid ⟨hl3, hl4, hl5⟩
        have o5 : 0 < n5 → ∀ a, AL = some a → a.block ≠ g := fun h0 a ha => by have := (own_cells howl a.block (by rw [ha]; rfl)).1; omega
        have HW := Lib.hid (And.intro o1 (And.intro o2 o5))
        clear q1 q2 l3 l4 l5 hM hbw hRl howl hb3 hB hl3 hl4 hl5 hs3 hhi o1 o2 o5 hz5 HSZ HLI hgl2 hgl hg hlb hbg
        go_loopw [6] (fun vi wr => ∃ (k : Nat) (AS : Option Addr) (cS : Nat), (vi = .int .i64 k ∧ k ≤ n5) ∧ CBox wr g (numR F0) (numR F1) PT A3 (listP F3).length c3 A4 (listP F4).length c4 AS k cS (numR F6) ∧ wr.ownsRow hi 3 1 (.slice AS k cS) k ((X5.take k).map fun x => .int .i64 (numR x)) ∧ Hid (Reads wr 1 A3 (listP F3).length ((listP F3).map .string) ∧ Reads wr 1 A4 (listP F4).length ((listP F4).map .string) ∧ Reads wr 1 AL n5 (X5.map .string) ∧ Blk wr w.heap.size 40 #[.int .i64 0, .int .i64 0, .string ⟨#[]⟩, .slice none 0 0, .slice none 0 0, .slice none 0 0, .int .i64 0, .int .i64 0] (0, 0) ∧ Below w.heap.size w wr) ∧ hi ≤ wr.heap.size) (fun i _ => n5 - (intOf i).toNat)
        case atStart => exact ⟨0, none, 0, ⟨rfl, Nat.zero_le _⟩, hB3, World.ownsRow_nil _ _ _ _, HH0, hhi2⟩
        case round =>
          obtain ⟨k, AS, cS, ⟨rfl, hk⟩, hB, hown, hHo, hsz⟩ := hrel
          clear hB3 HH0 hhi2
          by_cases hlt : k < n5
          · obtain ⟨x, hx⟩ : ∃ x, X5[k]? = some x := ⟨_, List.getElem?_eq_getElem (by have := HN5.out; omega)⟩
            obtain ⟨qb, qo, rfl, hcell⟩ := hHo.out.2.2.1.2 (by omega)
            have hcx0 : wr.cell? ⟨qb, qo + k, none⟩ = some (.string x) := hcell k _ (by simp [hx])
            have hxz := HXS.out x (List.mem_of_getElem? hx)
            have htk : (X5.take (k + 1)).map (fun x => Value.int .i64 (numR x)) = (X5.take k).map (fun x => Value.int .i64 (numR x)) ++ [.int .i64 (numR x)] := by rw [List.take_add_one, hx]; simp
            have HTK := Lib.hid htk
            clear hx htk hcell
            have hk0 : (0 : Int) ≤ (k : Int) := by omega
            have hk1 : (k : Int) < (n5 : Int) := by omega
            have hcx := cell_keep (Below.drew (Below.refl _ _)) hcx0
            have hBd : CBox wr.drew g (numR F0) (numR F1) PT A3 (listP F3).length c3 A4 (listP F4).length c4 AS k cS (numR F6) := Blk.keep hB (Below.drew (Below.refl _ _))
            have hc5 := Blk.cell hBd 5
            simp only [List.getElem?_toArray, List.getElem?_cons_zero, List.getElem?_cons_succ] at hc5
            clear hcx0
            go_upto_region 11 with fail
            refine wp_free 8 (by kernel_rfl) (by kernel_rfl) (fun a b => Below a.heap.size a b) (fun a => Below.refl _ _) (fun a b c h k => h.trans (k.mono h.size)) (E11 g AS k cS qb qo n5 cl x) E11.keep (fun _ _ => True) trivial ?_ ?_
            · skip
              refine ops_cons ?_ (ops_cons ?_ (ops_cons ?_ (ops_cons ?_ (ops_cons ?_ (ops_cons ?_ (ops_cons ?_ (ops_cons ?_ (ops_nil))))))))
              · intro ho L a W hC hi hl hJ hG hA hd
                have t4 : a.eval (.tmp 4) = .pointer (some ⟨g, 0, none⟩) := agree_eval hA (by kernel_rfl)
                have u4 := (tmp_eq a 4).trans t4
                exact free_step (W' := W) ho rfl (by simp [go_sem, execOp, u4]) ⟨rfl, Below.refl _ _, trivial⟩
              · intro ho L a W hC hi hl hJ hG hA hd
                have t53 : a.eval (.tmp 53) = .pointer (some ⟨g, 5, none⟩) := by have := hd _ (Array.mem_of_getElem? (i := 0) rfl) rfl; exact this
                have u53 := (tmp_eq a 53).trans t53
                have hx5 := cell_keep hG hc5
                exact free_step (W' := W) ho rfl (by simp [go_sem, execOp, u53, hx5]) ⟨rfl, Below.refl _ _, trivial⟩
              · intro ho L a W hC hi hl hJ hG hA hd
                have t5 : a.eval (.tmp 5) = .slice (some ⟨qb, qo, none⟩) n5 cl := agree_eval hA (by kernel_rfl)
                have u5 := (tmp_eq a 5).trans t5
                exact free_step (W' := W) ho rfl (by simp [go_sem, execOp, u5]) ⟨rfl, Below.refl _ _, trivial⟩
              · intro ho L a W hC hi hl hJ hG hA hd
                have t6 : a.eval (.tmp 6) = .int .i64 k := agree_eval hA (by kernel_rfl)
                have u6 := (tmp_eq a 6).trans t6
                exact free_step (W' := W) ho rfl (by simp [go_sem, execOp, u6]) ⟨rfl, Below.refl _ _, trivial⟩
              · intro ho L a W hC hi hl hJ hG hA hd
                have t55 : a.eval (.tmp 55) = .slice (some ⟨qb, qo, none⟩) n5 cl := by have := hd _ (Array.mem_of_getElem? (i := 0) rfl) rfl; exact this
                have u55 := (tmp_eq a 55).trans t55
                have t56 : a.eval (.tmp 56) = .int .i64 k := by have := hd _ (Array.mem_of_getElem? (i := 1) rfl) rfl; exact this
                have u56 := (tmp_eq a 56).trans t56
                exact free_step (W' := W) ho rfl (by simp [go_sem, execOp, u55, u56, hk0, hk1]) ⟨rfl, Below.refl _ _, trivial⟩
              · intro ho L a W hC hi hl hJ hG hA hd
                have t57 : a.eval (.tmp 57) = .pointer (some ⟨qb, qo + k, none⟩) := by have := hd _ (Array.mem_of_getElem? (i := 0) rfl) rfl; exact this
                have u57 := (tmp_eq a 57).trans t57
                have hcj := cell_keep hG hcx
                exact free_step (W' := W) ho rfl (by simp [go_sem, execOp, u57, hcj]) ⟨rfl, Below.refl _ _, trivial⟩
              · intro ho L a W hC hi hl hJ hG hA hd
                have t58 : a.eval (.tmp 58) = .string x := by have := hd _ (Array.mem_of_getElem? (i := 0) rfl) rfl; exact this
                have u58 := (tmp_eq a 58).trans t58
                refine free_call (f := 66) (args := #[.string x]) ho rfl (by simp [go_sem, execOp, u58]) ?_
                refine (rNumber_any x W (by omega)).mono ?_
                rintro e W' ⟨rfl, hb'⟩
                exact ⟨_, rfl, rfl, hb', trivial⟩
              · intro ho L a W hC hi hl hJ hG hA hd
                have t59 : a.eval (.tmp 59) = .int .i64 (numR x) := by have := hd _ (Array.mem_of_getElem? (i := 0) rfl) rfl; exact this
                have u59 := (tmp_eq a 59).trans t59
                exact free_step (v := .slice (some ⟨W.heap.size, 0, none⟩) 1 1) (W' := W.alloc (.cells #[.int .i64 (numR x)] 3)) ho rfl (by simp [go_sem, execOp, u59]) ⟨⟨_, rfl, Blk.cell (World.alloc_heap_new W (.cells #[.int .i64 (numR x)] 3)) 0⟩, balloc (Below.refl _ _) _, trivial⟩
            · intro vals w' hG _ hD
              have e1 : vals 1 = .slice AS k cS := hD 1 (by omega)
              obtain ⟨bb, e7, hbc⟩ : ∃ bb, vals 7 = .slice (some ⟨bb, 0, none⟩) 1 1 ∧ w'.cell? ⟨bb, 0, none⟩ = some (.int .i64 (numR x)) := hD 7 (by omega)
              have hgs : wr.heap.size ≤ w'.heap.size := hG.size
              have hG0 : Below wr.heap.size wr w' := (Below.drew (Below.refl _ _)).trans hG
              have hB2 : CBox w' g (numR F0) (numR F1) PT A3 (listP F3).length c3 A4 (listP F4).length c4 AS k cS (numR F6) := Blk.keep hB hG0
              have ho := HO.out
              have hown2 := own_but (c := w.heap.size) hown (But.of_below hG0) ho.2
              have hHo2 := hHo.out
              dsimp only [List.drop, List.take, putL]
              rw [e1, e7]
              simp only [Act.put, List.setIfInBounds_toArray, List.set_cons_succ, List.set_cons_zero]
              refine wpList_append_own _ rfl (.tmp 54) (.tmp 60) 23 rfl hi 3 i0 (.int .i64 0) 1 8 Tryz.underlying23 HI.out.1 HI.out.2.1 HI.out.2.2.1 HI.out.2.2.2 rfl (by decide) _ k _ rfl hown2 ⟨bb, 0, none⟩ 1 1 [.int .i64 (numR x)] rfl rfl (one_cell hbc) (by simp [Value.oneCell']) (by unfold maxLen; omega) (by omega) (by omega) ?_
              intro v' w3 hown3 hgrow _
              obtain ⟨g', cap', rfl⟩ := ownsRow_succ hown3
              have hrc := own_cells hown2
              have hbl := grown_below hgrow (fun r e => (hrc r e).1) (Nat.le_trans hsz hgs)
              have hB4 : CBox w3 g (numR F0) (numR F1) PT A3 (listP F3).length c3 A4 (listP F4).length c4 AS k cS (numR F6) := (hbl.block g hgi).trans hB2
              obtain ⟨hl3, hl4, hl5⟩ := HL.out
              have r3 := reads_below (hHo2.1.keep hG0) hbl hl3
              have r4 := reads_below (hHo2.2.1.keep hG0) hbl hl4
              have r5 := reads_below (hHo2.2.2.1.keep hG0) hbl hl5
              have hM4 := (hbl.block w.heap.size ho.2).trans (Blk.keep hHo2.2.2.2.1 hG0)
              have hbw4 := (bstep hHo2.2.2.2.2 hG0).trans (hbl.mono (Nat.le_of_lt ho.2))
              have hs3 := hgrow.size
              have x5 := Blk.cell hB4 5
              simp only [List.getElem?_toArray, List.getElem?_cons_zero, List.getElem?_cons_succ] at x5
              have z5 := Blk.free0 hB4 5
              have lg := Blk.lt hB4
              clear hB hB2 hBd hown hown2 hHo hHo2 hl3 hl4 hl5 hrc e1 e7 hD hbc hG hG0 hc5 hcx
              go_wp2
              exact ⟨⟨k + 1, some ⟨g', 0, none⟩, cap', ⟨by go_num, by omega⟩, hB4.s5 _ _ _, own_but (by rw [HTK.out]; exact hown3) (But.set _ g 5 _) hgi, Lib.hid ⟨(But.set _ g 5 _).reads r3 HW.out.1, (But.set _ g 5 _).reads r4 HW.out.2.1, (But.set _ g 5 _).reads r5 HW.out.2.2, (But.set _ g 5 _).blk hM4 (by omega), hbw4.trans ((But.set _ g 5 _).below (by omega) hbw4.size)⟩, by simp [World.setCell]; omega⟩, by simp [intOf]; omega⟩
          · obtain rfl : n5 = k := by omega
            rw [List.take_of_length_le (Nat.le_of_eq HN5.out.symm)] at hown
            have hCR : CondReads wr (condF numR [F0, F1, F2, F3, F4, F5, F6]) ⟨A3, c3, A4, c4, AS, cS⟩ := by
              refine ⟨hHo.out.1, hHo.out.2.1, ?_⟩
              show Reads wr 1 AS ((listP F5).map numR).length (((listP F5).map numR).map (.int .i64))
              rw [List.length_map, List.map_map, ← HX5.out, ← HN5.out]
              exact Reads.of_own hown
            have ht := rText_all (condF numR [F0, F1, F2, F3, F4, F5, F6]) ⟨A3, c3, A4, c4, AS, cS⟩ wr hCR HFT.out
            have ec : CondMem.val (condF numR [F0, F1, F2, F3, F4, F5, F6]) ⟨A3, c3, A4, c4, AS, cS⟩ = .agg #[.int .i64 (numR F0), .int .i64 (numR F1), .string PT, .slice A3 (listP F3).length c3, .slice A4 (listP F4).length c4, .slice AS n5 cS, .int .i64 (numR F6)] := by
              show Value.agg #[.int .i64 (numR F0), .int .i64 (numR F1), .string (unT F2), .slice A3 (listP F3).length c3, .slice A4 (listP F4).length c4, .slice AS ((listP F5).map numR).length cS, .int .i64 (numR F6)] = _
              rw [← HPT.out, List.length_map, ← HX5.out, ← HN5.out]
            rw [ec] at ht
            have h01 := textE_err (condF numR [F0, F1, F2, F3, F4, F5, F6])
            have hiff : ([F0, F1, F2, F3, F4, F5, F6].length = 7 ∧ validC (condF numR [F0, F1, F2, F3, F4, F5, F6]) = true ∧ textC (condF numR [F0, F1, F2, F3, F4, F5, F6]) = s) ↔ ((textE (condF numR [F0, F1, F2, F3, F4, F5, F6])).2 = 0 ∧ (textE (condF numR [F0, F1, F2, F3, F4, F5, F6])).1 = s) := by
              rw [textE_iff]
              exact ⟨fun h => h.2, fun h => ⟨rfl, h⟩⟩
            generalize textE (condF numR [F0, F1, F2, F3, F4, F5, F6]) = TE at *
            obtain ⟨T1, T2⟩ := TE
            dsimp only at ht h01 hiff
            have lS : 0 < n5 → ∀ a, AS = some a → hi ≤ a.block := fun h0 a ha => (own_cells hown a.block (by rw [ha]; rfl)).1
            have HTX := Lib.hid ht; have HIF := Lib.hid hiff
            clear ht hiff hCR ec hlt hk
            obtain ⟨x0, x1, x2, x3, x4, x5, x6⟩ := CBox.facts hB
            have lg := Blk.lt hB
            rcases h01 with rfl | rfl
            · cases hts : (T1.toList == s.toList)
              · have hno : ¬ ([F0, F1, F2, F3, F4, F5, F6].length = 7 ∧ validC (condF numR [F0, F1, F2, F3, F4, F5, F6]) = true ∧ textC (condF numR [F0, F1, F2, F3, F4, F5, F6]) = s) := fun h => by have h1 := (HIF.out.1 h).2; rw [h1] at hts; simp at hts
                go_upto_if 73 with (go_at_call 26; refine (HTX.out).mono ?_; rintro e w5 ⟨rfl, hb5⟩)
                obtain ⟨W6, hW6⟩ : ∃ W6, W6 = w5.alloc (.cells #[.string T1, .int .i64 0] 56) := ⟨_, rfl⟩
                have hk6 : Below wr.heap.size wr W6 := by rw [hW6]; exact hb5.trans (balloc (Below.refl _ _) _ |>.mono hb5.size)
                rw [← hW6]
                clear hW6 hb5
                have hM : Blk W6 w.heap.size 40 #[.int .i64 0, .int .i64 0, .string ⟨#[]⟩, .slice none 0 0, .slice none 0 0, .slice none 0 0, .int .i64 0, .int .i64 0] (0, 0) := Blk.keep hHo.out.2.2.2.1 hk6
                have hbw : Below w.heap.size w W6 := bstep hHo.out.2.2.2.2 hk6
                have hB6 : CBox W6 g (numR F0) (numR F1) PT A3 (listP F3).length c3 A4 (listP F4).length c4 AS n5 cS (numR F6) := Blk.keep hB hk6
                have hR3 := hHo.out.1.keep hk6
                have hR4 := hHo.out.2.1.keep hk6
                have hR5 := (Reads.of_own hown).keep hk6
                obtain ⟨x0, x1, x2, x3, x4, x5, x6⟩ := CBox.facts hB6
                have lg6 := Blk.lt hB6
                (have m0 := Blk.cell hM 0; have m1 := Blk.cell hM 1; have m2 := Blk.cell hM 2; have m3 := Blk.cell hM 3; have m4 := Blk.cell hM 4; have m5 := Blk.cell hM 5; have m6 := Blk.cell hM 6; have m7 := Blk.cell hM 7; have f0 := Blk.free0 hM 0; have f1 := Blk.free0 hM 1; have f2 := Blk.free0 hM 2; have f3 := Blk.free0 hM 3; have f4 := Blk.free0 hM 4; have f5 := Blk.free0 hM 5; have f6 := Blk.free0 hM 6; have f7 := Blk.free0 hM 7; have hzM := Blk.lt hM; simp only [List.getElem?_toArray, List.getElem?_cons_zero, List.getElem?_cons_succ] at m0 m1 m2 m3 m4 m5 m6 m7)
                clear hB hown
                have hcond : ¬ ([F0, F1, F2, F3, F4, F5, F6].length = 7 ∧ validC (condF numR [F0, F1, F2, F3, F4, F5, F6]) = true ∧ textC (condF numR [F0, F1, F2, F3, F4, F5, F6]) = s) := hno
                obtain rfl : X = zeroC := by rw [HX.out, if_neg hcond]; rfl
                obtain rfl : ER = 3 := by rw [HER.out, if_neg hcond]; rfl
                clear hcond hno
                go_wp2
                clear x0 x1 x2 x3 x4 x5 x6
                have hP := blk_put8 hM (.int .i64 0) (.int .i64 0) (.string ⟨#[]⟩) (.slice none 0 0) (.slice none 0 0) (.slice none 0 0) (.int .i64 0) (.int .i64 3); have r0 := Blk.cell hP 0; have r1 := Blk.cell hP 1; have r2 := Blk.cell hP 2; have r3 := Blk.cell hP 3; have r4 := Blk.cell hP 4; have r5 := Blk.cell hP 5; have r6 := Blk.cell hP 6; have r7 := Blk.cell hP 7; simp only [List.getElem?_toArray, List.getElem?_cons_zero, List.getElem?_cons_succ] at r0 r1 r2 r3 r4 r5 r6 r7; (clear m0 m1 m2 m3 m4 m5 m6 m7 f0 f1 f2 f3 f4 f5 f6 f7)
                exact bodyPost_ret (v := .agg #[.int .i64 0, .int .i64 0, .string ⟨#[]⟩, .slice none 0 0, .slice none 0 0, .slice none 0 0, .int .i64 0, .int .i64 3]) (by simp only [results, Tryz.results21]; simp [go_sem, r0, r1, r2, r3, r4, r5, r6, r7]) rfl ⟨below_put8 hbw (Nat.le_refl _) _ _ _ _ _ _ _ _, ⟨none, 0, none, 0, none, 0⟩, rfl, ⟨Reads.nil_ _ _ _, Reads.nil_ _ _ _, Reads.nil_ _ _ _⟩⟩
              · have hyes : [F0, F1, F2, F3, F4, F5, F6].length = 7 ∧ validC (condF numR [F0, F1, F2, F3, F4, F5, F6]) = true ∧ textC (condF numR [F0, F1, F2, F3, F4, F5, F6]) = s := HIF.out.2 ⟨rfl, by rw [beq_iff_eq, Lib.toList_data, Lib.toList_data] at hts; exact bytes_ext hts⟩
                go_upto_if 73 with (go_at_call 26; refine (HTX.out).mono ?_; rintro e w5 ⟨rfl, hb5⟩)
                obtain ⟨W6, hW6⟩ : ∃ W6, W6 = w5.alloc (.cells #[.string T1, .int .i64 0] 56) := ⟨_, rfl⟩
                have hk6 : Below wr.heap.size wr W6 := by rw [hW6]; exact hb5.trans (balloc (Below.refl _ _) _ |>.mono hb5.size)
                rw [← hW6]
                clear hW6 hb5
                have hM : Blk W6 w.heap.size 40 #[.int .i64 0, .int .i64 0, .string ⟨#[]⟩, .slice none 0 0, .slice none 0 0, .slice none 0 0, .int .i64 0, .int .i64 0] (0, 0) := Blk.keep hHo.out.2.2.2.1 hk6
                have hbw : Below w.heap.size w W6 := bstep hHo.out.2.2.2.2 hk6
                have hB6 : CBox W6 g (numR F0) (numR F1) PT A3 (listP F3).length c3 A4 (listP F4).length c4 AS n5 cS (numR F6) := Blk.keep hB hk6
                have hR3 := hHo.out.1.keep hk6
                have hR4 := hHo.out.2.1.keep hk6
                have hR5 := (Reads.of_own hown).keep hk6
                obtain ⟨x0, x1, x2, x3, x4, x5, x6⟩ := CBox.facts hB6
                have lg6 := Blk.lt hB6
                (have m0 := Blk.cell hM 0; have m1 := Blk.cell hM 1; have m2 := Blk.cell hM 2; have m3 := Blk.cell hM 3; have m4 := Blk.cell hM 4; have m5 := Blk.cell hM 5; have m6 := Blk.cell hM 6; have m7 := Blk.cell hM 7; have f0 := Blk.free0 hM 0; have f1 := Blk.free0 hM 1; have f2 := Blk.free0 hM 2; have f3 := Blk.free0 hM 3; have f4 := Blk.free0 hM 4; have f5 := Blk.free0 hM 5; have f6 := Blk.free0 hM 6; have f7 := Blk.free0 hM 7; have hzM := Blk.lt hM; simp only [List.getElem?_toArray, List.getElem?_cons_zero, List.getElem?_cons_succ] at m0 m1 m2 m3 m4 m5 m6 m7)
                clear hB hown
                obtain rfl : X = condF numR [F0, F1, F2, F3, F4, F5, F6] := by rw [HX.out, if_pos hyes]; rfl
                obtain rfl : ER = 0 := by rw [HER.out, if_pos hyes]; rfl
                clear hyes
                go_wp2
                clear x0 x1 x2 x3 x4 x5 x6
                have hP := blk_put8 hM (.int .i64 (numR F0)) (.int .i64 (numR F1)) (.string PT) (.slice A3 (listP F3).length c3) (.slice A4 (listP F4).length c4) (.slice AS n5 cS) (.int .i64 (numR F6)) (.int .i64 0); have r0 := Blk.cell hP 0; have r1 := Blk.cell hP 1; have r2 := Blk.cell hP 2; have r3 := Blk.cell hP 3; have r4 := Blk.cell hP 4; have r5 := Blk.cell hP 5; have r6 := Blk.cell hP 6; have r7 := Blk.cell hP 7; simp only [List.getElem?_toArray, List.getElem?_cons_zero, List.getElem?_cons_succ] at r0 r1 r2 r3 r4 r5 r6 r7; (clear m0 m1 m2 m3 m4 m5 m6 m7 f0 f1 f2 f3 f4 f5 f6 f7)
                refine bodyPost_ret (v := .agg #[.int .i64 (numR F0), .int .i64 (numR F1), .string PT, .slice A3 (listP F3).length c3, .slice A4 (listP F4).length c4, .slice AS n5 cS, .int .i64 (numR F6), .int .i64 0]) (by simp only [results, Tryz.results21]; simp [go_sem, r0, r1, r2, r3, r4, r5, r6, r7]) rfl ⟨below_put8 hbw (Nat.le_refl _) _ _ _ _ _ _ _ _, ⟨A3, c3, A4, c4, AS, cS⟩, ?_, ?_, ?_, ?_⟩
                · show Ending.returned (Value.agg #[.int .i64 (numR F0), .int .i64 (numR F1), .string PT, .slice A3 (listP F3).length c3, .slice A4 (listP F4).length c4, .slice AS n5 cS, .int .i64 (numR F6), .int .i64 0]) = .returned (Value.agg #[.int .i64 (numR F0), .int .i64 (numR F1), .string (unT F2), .slice A3 (listP F3).length c3, .slice A4 (listP F4).length c4, .slice AS ((listP F5).map numR).length cS, .int .i64 (numR F6), .int .i64 0])
                  rw [HPT.out, List.length_map, ← HX5.out, ← HN5.out]
                · exact put8_but.reads hR3 HV.out.1
                · exact put8_but.reads hR4 HV.out.2
                · show Reads _ 1 AS ((listP F5).map numR).length (((listP F5).map numR).map (.int .i64))
                  rw [List.length_map, List.map_map, ← HX5.out, ← HN5.out]
                  exact put8_but.reads hR5 (fun h0 a ha => by have h1 := lS h0 a ha; have h2 := HO.out.2; omega)
            · · have hno : ¬ ([F0, F1, F2, F3, F4, F5, F6].length = 7 ∧ validC (condF numR [F0, F1, F2, F3, F4, F5, F6]) = true ∧ textC (condF numR [F0, F1, F2, F3, F4, F5, F6]) = s) := fun h => by have h1 := (HIF.out.1 h).1; simp at h1
                go_upto_if 73 with (go_at_call 26; refine (HTX.out).mono ?_; rintro e w5 ⟨rfl, hb5⟩)
                obtain ⟨W6, hW6⟩ : ∃ W6, W6 = w5.alloc (.cells #[.string T1, .int .i64 1] 56) := ⟨_, rfl⟩
                have hk6 : Below wr.heap.size wr W6 := by rw [hW6]; exact hb5.trans (balloc (Below.refl _ _) _ |>.mono hb5.size)
                rw [← hW6]
                clear hW6 hb5
                have hM : Blk W6 w.heap.size 40 #[.int .i64 0, .int .i64 0, .string ⟨#[]⟩, .slice none 0 0, .slice none 0 0, .slice none 0 0, .int .i64 0, .int .i64 0] (0, 0) := Blk.keep hHo.out.2.2.2.1 hk6
                have hbw : Below w.heap.size w W6 := bstep hHo.out.2.2.2.2 hk6
                have hB6 : CBox W6 g (numR F0) (numR F1) PT A3 (listP F3).length c3 A4 (listP F4).length c4 AS n5 cS (numR F6) := Blk.keep hB hk6
                have hR3 := hHo.out.1.keep hk6
                have hR4 := hHo.out.2.1.keep hk6
                have hR5 := (Reads.of_own hown).keep hk6
                obtain ⟨x0, x1, x2, x3, x4, x5, x6⟩ := CBox.facts hB6
                have lg6 := Blk.lt hB6
                (have m0 := Blk.cell hM 0; have m1 := Blk.cell hM 1; have m2 := Blk.cell hM 2; have m3 := Blk.cell hM 3; have m4 := Blk.cell hM 4; have m5 := Blk.cell hM 5; have m6 := Blk.cell hM 6; have m7 := Blk.cell hM 7; have f0 := Blk.free0 hM 0; have f1 := Blk.free0 hM 1; have f2 := Blk.free0 hM 2; have f3 := Blk.free0 hM 3; have f4 := Blk.free0 hM 4; have f5 := Blk.free0 hM 5; have f6 := Blk.free0 hM 6; have f7 := Blk.free0 hM 7; have hzM := Blk.lt hM; simp only [List.getElem?_toArray, List.getElem?_cons_zero, List.getElem?_cons_succ] at m0 m1 m2 m3 m4 m5 m6 m7)
                clear hB hown
                have hcond : ¬ ([F0, F1, F2, F3, F4, F5, F6].length = 7 ∧ validC (condF numR [F0, F1, F2, F3, F4, F5, F6]) = true ∧ textC (condF numR [F0, F1, F2, F3, F4, F5, F6]) = s) := hno
                obtain rfl : X = zeroC := by rw [HX.out, if_neg hcond]; rfl
                obtain rfl : ER = 3 := by rw [HER.out, if_neg hcond]; rfl
                clear hcond hno
                go_wp2
                clear x0 x1 x2 x3 x4 x5 x6
                have hP := blk_put8 hM (.int .i64 0) (.int .i64 0) (.string ⟨#[]⟩) (.slice none 0 0) (.slice none 0 0) (.slice none 0 0) (.int .i64 0) (.int .i64 3); have r0 := Blk.cell hP 0; have r1 := Blk.cell hP 1; have r2 := Blk.cell hP 2; have r3 := Blk.cell hP 3; have r4 := Blk.cell hP 4; have r5 := Blk.cell hP 5; have r6 := Blk.cell hP 6; have r7 := Blk.cell hP 7; simp only [List.getElem?_toArray, List.getElem?_cons_zero, List.getElem?_cons_succ] at r0 r1 r2 r3 r4 r5 r6 r7; (clear m0 m1 m2 m3 m4 m5 m6 m7 f0 f1 f2 f3 f4 f5 f6 f7)
                exact bodyPost_ret (v := .agg #[.int .i64 0, .int .i64 0, .string ⟨#[]⟩, .slice none 0 0, .slice none 0 0, .slice none 0 0, .int .i64 0, .int .i64 3]) (by simp only [results, Tryz.results21]; simp [go_sem, r0, r1, r2, r3, r4, r5, r6, r7]) rfl ⟨below_put8 hbw (Nat.le_refl _) _ _ _ _ _ _ _ _, ⟨none, 0, none, 0, none, 0⟩, rfl, ⟨Reads.nil_ _ _ _, Reads.nil_ _ _ _, Reads.nil_ _ _ _⟩⟩
  · have hcond : ¬ (Ls.length = 7 ∧ validC (condF numR Ls) = true ∧ textC (condF numR Ls) = s) := fun h => h7 (hn.trans h.1)
    obtain rfl : X = zeroC := by rw [HX.out, if_neg hcond]; rfl
    obtain rfl : ER = 3 := by rw [HER.out, if_neg hcond]; rfl
    clear hcond
    have e1 : ((n : Int) == 7) = false := by simp; omega
    have e2 : ((n : Int) != 7) = true := by simp; omega
    have e3 : ¬ (n : Int) = 7 := by omega
    clear HX HER HZ0 HSZ HFT hRd hn h7
    (have m0 := Blk.cell hM 0; have m1 := Blk.cell hM 1; have m2 := Blk.cell hM 2; have m3 := Blk.cell hM 3; have m4 := Blk.cell hM 4; have m5 := Blk.cell hM 5; have m6 := Blk.cell hM 6; have m7 := Blk.cell hM 7; have f0 := Blk.free0 hM 0; have f1 := Blk.free0 hM 1; have f2 := Blk.free0 hM 2; have f3 := Blk.free0 hM 3; have f4 := Blk.free0 hM 4; have f5 := Blk.free0 hM 5; have f6 := Blk.free0 hM 6; have f7 := Blk.free0 hM 7; have hzM := Blk.lt hM; simp only [List.getElem?_toArray, List.getElem?_cons_zero, List.getElem?_cons_succ] at m0 m1 m2 m3 m4 m5 m6 m7)
    go_wp2
    clear e1 e2 e3
    have hP := blk_put8 hM (.int .i64 0) (.int .i64 0) (.string ⟨#[]⟩) (.slice none 0 0) (.slice none 0 0) (.slice none 0 0) (.int .i64 0) (.int .i64 3); have r0 := Blk.cell hP 0; have r1 := Blk.cell hP 1; have r2 := Blk.cell hP 2; have r3 := Blk.cell hP 3; have r4 := Blk.cell hP 4; have r5 := Blk.cell hP 5; have r6 := Blk.cell hP 6; have r7 := Blk.cell hP 7; simp only [List.getElem?_toArray, List.getElem?_cons_zero, List.getElem?_cons_succ] at r0 r1 r2 r3 r4 r5 r6 r7; (clear m0 m1 m2 m3 m4 m5 m6 m7 f0 f1 f2 f3 f4 f5 f6 f7)
    exact bodyPost_ret (v := .agg #[.int .i64 0, .int .i64 0, .string ⟨#[]⟩, .slice none 0 0, .slice none 0 0, .slice none 0 0, .int .i64 0, .int .i64 3]) (by simp only [results, Tryz.results21]; simp [go_sem, r0, r1, r2, r3, r4, r5, r6, r7]) rfl ⟨below_put8 hbw (Nat.le_refl _) _ _ _ _ _ _ _ _, ⟨none, 0, none, 0, none, 0⟩, rfl, ⟨Reads.nil_ _ _ _, Reads.nil_ _ _ _, Reads.nil_ _ _ _⟩⟩
end Go.Proofs.YtocgkpdolgnbgaaGreatDoor
