/- What 'Tags' returns. -/
import Derived.Test.YtcjeddichookmaaGreatDoorIZ5
import Derived.Test.YtcjeddichookmaaGreatDoorIZ7
import Derived.Lib.Join
import Derived.Lib.SlicesCompact
import Derived.Lib.RowBridge
import Derived.Test.YtcjeddichookmaaGreatDoorProg
import Derived.WalkKit
import Derived.WalkSpells
import Derived.WalkLawsBesides
import Derived.Below
import Derived.Deep.QuietTactic
import Derived.BigQuiet
import Derived.Lib.QuietBelow
import Derived.Lib.Strings
import Derived.Lib.Hide
import Derived.Deep.RegionWith
import Derived.Deep.RegionHeld3
import Derived.Lib.IndexBytes
namespace Go.Proofs.YtcjeddichookmaaGreatDoor
open Go.RowKit Go.Sort
set_option linter.unusedVariables false
set_option linter.unusedSimpArgs false
set_option maxRecDepth 100000
open Go.Sort
def sortL (xs : List (List UInt8)) : List (List UInt8) := xs.mergeSort (fun x y => decide (x ≤ y))
theorem toB_back (l : List (List UInt8)) : (l.map toB).map (·.data.toList) = l := by
  rw [List.map_map]
  exact List.map_id l
theorem lists_enc (ps : List ByteArray) : ps.map Value.string = (lists ps).map encStr := by simp [lists]
theorem lists_len (ps : List ByteArray) : (lists ps).length = ps.length := by simp [lists]
theorem collect_any (gf : Nat) (lb : Array Value) (eg : ∀ args w, (callFunc gf args).run Tryz.prog w = .ok (.enter gf args) w) (ps : List ByteArray) (w : World)
    (lo hi : Nat) (hhi : hi ≤ w.heap.size) (hseq : Iter Tryz.prog gf lb (ps.map .string) (fun _ _ => False) lo hi w) (hlen : ps.length ≤ 1000000000) :
    Calls Tryz.prog 88 #[.func (.func gf) #[] lb] w fun e w' => ∃ v, e = .returned v ∧ w'.ownsRow w.heap.size 9 1 v ps.length (ps.map .string) ∧ Below w.heap.size w w' := by
  have cA := appendSeq_any gf lb eg ps w lo hi hhi hseq hlen
  go_enter Tryz.func88, Tryz.ntmps88
  go_wp2_with (go_at_call 105; refine cA.mono ?_; rintro e w1 ⟨v, rfl, hrow, hb⟩)
  go_ret
  exact ⟨v, rfl, hrow, hb⟩
theorem sorted_any (gf : Nat) (lb : Array Value) (eg : ∀ args w, (callFunc gf args).run Tryz.prog w = .ok (.enter gf args) w) (ps : List ByteArray) (w : World)
    (lo hi : Nat) (hhi : hi ≤ w.heap.size) (hseq : Iter Tryz.prog gf lb (ps.map .string) (fun _ _ => False) lo hi w) (hlen : ps.length ≤ 1000000000) :
    Calls Tryz.prog 65 #[.func (.func gf) #[] lb] w fun e w' => ∃ v, e = .returned v ∧ w'.ownsRow w.heap.size 9 1 v ps.length ((sortL (lists ps)).map encStr) ∧ Below w.heap.size w w' := by
  have cA := collect_any gf lb eg ps w lo hi hhi hseq hlen
  have hll := lists_len ps
  go_enter Tryz.func65, Tryz.ntmps65
  go_wp2_with (go_at_call 88; refine cA.mono ?_; rintro e w1 ⟨v, rfl, hrow, hb⟩)
  rw [lists_enc] at hrow
  rcases hrow.2 with ⟨rfl, hz⟩ | ⟨gb, cap, cur, rfl, hbase, hgb, r1, r2, r3, r4⟩
  · have hps : ps = [] := List.eq_nil_of_length_eq_zero hz
    subst hps
    go_wp2_with (go_at_call 89; refine (Tryz.slices_Sort_string_none none 0 w1).mono ?_; rintro e w' ⟨rfl, rfl⟩)
    go_ret
    exact ⟨_, rfl, by simpa [lists, sortL] using hrow, hb⟩
  · have hH : Holds encStr w1 gb 0 (lists ps).toArray := holds_of_block hgb (by rw [hll]; simpa using r4)
    have hgl : gb < w1.heap.size := (Array.getElem?_eq_some_iff.1 hgb).1
    have cS := Tryz.slices_Sort_string gb 0 cap (lists ps) w1 hH hgl (by omega)
    rw [hll] at cS
    go_wp2_with (go_at_call 89; refine cS.mono ?_; rintro e w' ⟨rfl, nn, os, rfl⟩)
    go_ret
    refine ⟨_, rfl, ?_, hb.grown (grownBy_sorted _) hb.size (fun j hj => by cases hj; exact hbase)⟩
    have := ownsRow_sorted (w := w1) (base := w.heap.size) (g := gb) (cap := cap) (n := nn) (e := 9) (os := os) (cur := cur) (ss := lists ps) (ts := sortL (lists ps)) (by simp [sortL]) hbase hgb (by rw [hll]; exact r1) r2 (by rw [r3])
    rw [hll] at this
    exact this
theorem lens_le : ∀ l : List (List UInt8), (∀ x ∈ l, x.length ≤ 64) → Lib.lens l ≤ l.length * 64
  | [], _ => by simp [Lib.lens]
  | x :: l, h => by
    have h1 := h x (by simp)
    have h2 := lens_le l (fun y hy => h y (by simp [hy]))
    simp only [Lib.lens, List.map_cons, List.sum_cons, List.length_cons] at h2 ⊢
    omega
theorem join_bound (l : List (List UInt8)) (h : ∀ x ∈ l, x.length ≤ 64) : (Lib.join l [44]).length ≤ l.length * 65 := by
  cases l with
  | nil => simp [Lib.join_nil]
  | cons x l =>
    have h1 := h x (by simp)
    have h2 := lens_le l (fun y hy => h y (by simp [hy]))
    rw [Lib.join_cons, List.length_append, Lib.joinTail_length]
    simp only [List.length_singleton, List.length_cons, List.length_nil, Nat.zero_add, Nat.one_mul]
    omega
theorem compactUpTo_mem (d : Array (List UInt8)) : ∀ m, m ≤ d.size → ∀ x ∈ Lib.compactUpTo d m, x ∈ d.toList
  | 0, _, x, hx => by simp [Lib.compactUpTo] at hx
  | m + 1, hm, x, hx => by
    rw [Lib.compactUpTo_succ] at hx
    rcases List.mem_append.1 hx with hx | hx
    · exact compactUpTo_mem d m (by omega) x hx
    · split at hx
      · rw [List.mem_singleton.1 hx]
        have : m < d.size := by omega
        rw [getElem!_pos d m this]
        simp
      · cases hx
theorem compact_mem (zs : List (List UInt8)) (x : List UInt8) (h : x ∈ Lib.compact zs) : x ∈ zs := by
  have := compactUpTo_mem zs.toArray zs.length (by simp) x h
  simpa using this
def tagsL (ps : List ByteArray) : List UInt8 := Lib.join (Lib.compact (sortL (lists ps))) [44]
def tagsR (ps : List ByteArray) : ByteArray × Int :=
  if ps.any (fun p => !isNameB p) then (⟨#[]⟩, 1) else if 4096 < (tagsL ps).length then (⟨#[]⟩, 2) else (toB (tagsL ps), 0)
def tagsV (ps : List ByteArray) : Value := .tuple #[.string (tagsR ps).1, .int .i64 (tagsR ps).2]
theorem grownBy_put {w : World} {g n : Nat} (d : Array (List UInt8)) : w.grownBy (putRow encStr (Sort.ahead w n) g 0 d) (some g) := by
  refine ⟨rfl, rfl, rfl, by simp [putRow, mapBlock, Sort.ahead], fun k hk hne => ?_⟩
  have : g ≠ k := fun e => hne (by rw [e])
  simp [putRow, mapBlock, Sort.ahead, Array.getElem?_modify, this]
set_option maxHeartbeats 2000000 in
theorem tags_any (A : Option Addr) (n c : Nat) (ps : List ByteArray) (w : World) (hR : Reads w 1 A n (ps.map .string)) (hn : ps.length ≤ 1000000) (hsz : ∀ p ∈ ps, p.size ≤ 4294967281) : Calls Tryz.prog 54 #[.slice A n c] w (Ret w (tagsV ps)) := by
  have hpn : ps.length = n := by have := hR.1; simpa using this
  have cC := fun W h => containsFunc_any 73 (enters_of Tryz.func73 (by kernel_rfl) rfl) (fun x => !isNameB x) A n c ps W (fun x hx W' => notName_any x W' (hsz x hx)) h (by omega)
  cases ha : ps.any (fun x => !isNameB x)
  · rw [ha] at cC
    have hall : ∀ p ∈ ps, p.size ≤ 64 := fun p hp => by
      have := List.any_eq_false.1 ha p hp
      exact size_of_name (by simpa using this)
    have hv : tagsV ps = if 4096 < (tagsL ps).length then .tuple #[.string ⟨#[]⟩, .int .i64 2] else .tuple #[.string (toB (tagsL ps)), .int .i64 0] := by
      unfold tagsV tagsR
      simp only [ha, Bool.false_eq_true, if_false]
      split <;> rfl
    rw [hv]
    obtain ⟨zs, hzs⟩ : ∃ zs, zs = sortL (lists ps) := ⟨_, rfl⟩
    have hzl : zs.length = n := by rw [hzs, ← hpn]; simp [sortL, lists]
    have hz64 : ∀ x ∈ zs, x.length ≤ 64 := by
      intro x hx
      rw [hzs] at hx
      have := (List.mergeSort_perm _ _).mem_iff.1 hx
      obtain ⟨p, hp, rfl⟩ := List.mem_map.1 this
      have := hall p hp
      rw [Lib.size_eq] at this; exact this
    have hjn := join_bound (Lib.compact zs) (fun x hx => hz64 x (compact_mem zs x hx))
    have hcl := Lib.compact_length_le zs
    have hT : Lib.join (Lib.compact zs) [44] = tagsL ps := by rw [hzs]; rfl
    rw [hT] at hjn
    have HC := Lib.hid cC
    have HZ := Lib.hid hzs
    have HT := Lib.hid hT
    have HR := Lib.hid hR
    generalize htl : tagsL ps = tl at *
    have hboth : ∀ V, (V = if 4096 < tl.length then Value.tuple #[.string ⟨#[]⟩, .int .i64 2] else .tuple #[.string (toB tl), .int .i64 0]) → Calls Tryz.prog 54 #[.slice A n c] w (Ret w V) := by
      intro V hV
      obtain ⟨T, hTT⟩ : ∃ T : ByteArray, T = toB tl := ⟨_, rfl⟩
      have hTs : T.size = tl.length := by rw [hTT]; rfl
      rw [← hTT, ← hTs] at hV
      have HTT := Lib.hid hTT
      have HV := Lib.hid hV
      have HTs := Lib.hid hTs
      clear hV hv hT hTT cC hR hzs ha hTs
      have hn9 : n ≤ 1000000 := by omega
      have cS : ∀ W : World, Reads W 1 A n (ps.map .string) → Calls Tryz.prog 65 #[.func (.func 99) #[] #[.pointer (some ⟨W.heap.size, 0, none⟩)]] (W.alloc (.cells #[.slice A n c] 63)) fun e w' =>
          ∃ v, e = .returned v ∧ w'.ownsRow W.heap.size 9 1 v n (zs.map encStr) ∧ Below W.heap.size W w' := by
        intro W hW
        have h0 : (W.alloc (.cells #[.slice A n c] 63)).cell? ⟨W.heap.size, 0, none⟩ = some (.slice A n c) := by simp [go_sem]
        refine (sorted_any 99 _ (enters_of Tryz.func99 (by kernel_rfl) rfl) ps (W.alloc (.cells #[.slice A n c] 63)) 0 _ (Nat.le_refl _)
          (values_iter W.heap.size n c A ps _ h0 (hW.keep (balloc (Below.refl _ _) _)) (by omega)) (by omega)).mono ?_
        rintro e w' ⟨v, rfl, hrow, hb⟩
        rw [hpn, ← HZ.out] at hrow
        exact ⟨v, rfl, ⟨hrow.1, hrow.2.imp id (fun ⟨g, cap, cur, e1, e2, e3⟩ => ⟨g, cap, cur, e1, by simp at e2; omega, e3⟩)⟩, blater _ hb⟩
      have HS := Lib.hid cS
      clear cS
      have key : (n = 0 → (T = ⟨#[]⟩ ∧ zs = [])) := by
        intro h0
        have hz : zs = [] := List.eq_nil_of_length_eq_zero (by omega)
        refine ⟨?_, hz⟩
        rw [HTT.out, ← HT.out, hz]; rfl
      have HK := Lib.hid key
      clear key
      go_enter Tryz.func54, Tryz.ntmps54
      go_wp2_with (first | (go_at_call 70; refine (HC.out _ HR.out).mono ?_; rintro e w1 ⟨rfl, hb1⟩; have hR1 := HR.out.keep hb1) | (go_at_call 76; refine (values_any A n c w1).mono ?_; rintro e W' ⟨rfl, hW'⟩; rw [hW']; clear hW' W') | (go_at_call 65; refine (HS.out w1 hR1).mono ?_; rintro e w2 ⟨v, rfl, hrow, hb2⟩))
      rcases hrow.2 with ⟨rfl, hz⟩ | ⟨gb, cap, cur, rfl, hbase, hgb, r1, r2, r3, r4⟩
      · obtain ⟨hT0, hz0⟩ := HK.out hz
        subst hz
        have hV := HV.out
        rw [hT0, if_neg (by decide)] at hV
        subst hV
        go_wp2_with (first | (go_at_call 75; refine (Tryz.slices_Compact_string_empty none 0 _).mono ?_; rintro e w3 ⟨rfl, rfl⟩) | (go_at_call 74; refine (Tryz.strings_Join_none none 0 _ _).mono ?_; rintro e w3 ⟨rfl, rfl⟩))
        go_ret2
        exact ⟨rfl, belB⟩
      · have hH : Holds encStr w2 gb 0 zs.toArray := holds_of_block hgb (by rw [hzl]; simpa using r4)
        have hgl : gb < w2.heap.size := (Array.getElem?_eq_some_iff.1 hgb).1
        have cK := Tryz.slices_Compact_string gb 0 cap zs w2 hH (by omega) (by omega)
        rw [hzl] at cK
        have cJ : ∀ q w3, w3 = putRow encStr (Sort.ahead w2 q) gb 0 (Lib.compact zs ++ List.replicate (n - (Lib.compact zs).length) []).toArray → Below w1.heap.size w1 w3 ∧
            Calls Tryz.prog 74 #[.slice (some ⟨gb, 0, none⟩) (Lib.compact zs).length cap, .string ⟨#[44]⟩] w3 (Ret w3 (.string T)) := by
          rintro q w3 rfl
          have hb3 := hb2.grown (grownBy_put (w := w2) (g := gb) (n := q) (Lib.compact zs ++ List.replicate (n - (Lib.compact zs).length) []).toArray) hb2.size (fun j hj => by cases hj; exact hbase)
          refine ⟨hb3, ?_⟩
          have hh := holds_putRow encStr (Sort.ahead w2 q) gb 0 zs.toArray (Lib.compact zs ++ List.replicate (n - (Lib.compact zs).length) []).toArray hH (by simp; omega)
          have := Tryz.strings_Join gb 0 cap ((Lib.compact zs).map toB) ⟨#[44]⟩ (putRow encStr (Sort.ahead w2 q) gb 0 (Lib.compact zs ++ List.replicate (n - (Lib.compact zs).length) []).toArray) (by
              intro j x hx
              rw [List.getElem?_map, Option.map_eq_some_iff] at hx
              obtain ⟨y, hy, rfl⟩ := hx
              have hjl : j < (Lib.compact zs).length := (List.getElem?_eq_some_iff.1 hy).1
              have h1 := (hh j (by simp; omega)).1
              rw [h1]
              congr 1
              rw [getElem!_pos _ j (by simp; omega)]
              have : (Lib.compact zs ++ List.replicate (n - (Lib.compact zs).length) ([] : List UInt8)).toArray[j]'(by simp; omega) = y := by
                obtain ⟨_, h2⟩ := List.getElem?_eq_some_iff.1 hy
                simp [List.getElem_append_left hjl, h2]
              rw [this]; rfl) (by simpa [putRow, mapBlock, Sort.ahead] using hgl) (by simp; omega) (by simp; omega) (by
              have := toB_back (Lib.compact zs)
              rw [this, show (⟨#[44]⟩ : ByteArray).data.toList = [44] from rfl, HT.out]; omega)
          rw [toB_back, show (⟨#[44]⟩ : ByteArray).data.toList = [44] from rfl, HT.out, List.length_map] at this
          rw [HTT.out]
          exact this
        have HJ := Lib.hid cJ
        have HKK := Lib.hid cK
        clear cJ cK hH hgb r3 r4 hrow
        by_cases hbig : 4096 < T.size
        · have hV := HV.out
          rw [if_pos hbig] at hV
          subst hV
          have hd : decide ((4096 : Int) < (T.size : Int)) = true := by simp; omega
          go_wp2_with (first | (go_at_call 75; refine HKK.out.mono ?_; rintro e w3 ⟨rfl, q, hw3⟩; obtain ⟨hb3, cJ⟩ := HJ.out q w3 hw3; clear hw3) | (go_at_call 74; refine cJ.mono ?_; rintro e w4 ⟨rfl, hb4⟩))
          go_ret2
          exact ⟨rfl, belB⟩
        · have hV := HV.out
          rw [if_neg hbig] at hV
          subst hV
          have hd : decide ((4096 : Int) < (T.size : Int)) = false := by simp; omega
          go_wp2_with (first | (go_at_call 75; refine HKK.out.mono ?_; rintro e w3 ⟨rfl, q, hw3⟩; obtain ⟨hb3, cJ⟩ := HJ.out q w3 hw3; clear hw3) | (go_at_call 74; refine cJ.mono ?_; rintro e w4 ⟨rfl, hb4⟩))
          go_ret2
          exact ⟨rfl, belB⟩
    exact hboth _ rfl
  · have hv : tagsV ps = .tuple #[.string ⟨#[]⟩, .int .i64 1] := by
      unfold tagsV tagsR
      rw [if_pos ha]
    rw [hv]
    rw [ha] at cC
    have HC := Lib.hid cC
    have HR := Lib.hid hR
    clear hv ha cC hR
    go_enter Tryz.func54, Tryz.ntmps54
    go_wp2_with (go_at_call 70; refine (HC.out _ HR.out).mono ?_; rintro e w1 ⟨rfl, hb1⟩)
    go_ret2
    exact ⟨rfl, belB⟩
end Go.Proofs.YtcjeddichookmaaGreatDoor
