/- The pieces of a text between the bytes c: 'splitL'; and strings.SplitSeq's iterator yields them. -/
import Derived.Test.YtocgkpdolgnbgaaGreatDoorHRange
import Derived.Test.YtocgkpdolgnbgaaGreatDoorHShelf
import Derived.Test.YtocgkpdolgnbgaaGreatDoorProg
import Derived.WalkKit
import Derived.WalkSpells
import Derived.WalkLawsBesides
import Derived.Below
import Derived.Deep.QuietTactic
import Derived.BigQuiet
import Derived.Lib.QuietBelow
import Derived.Lib.Strings
import Derived.Lib.Hide
import Derived.Deep.RegionWith
import Derived.Deep.RegionHeld3
import Derived.Lib.IndexBytes
namespace Go.Proofs.YtocgkpdolgnbgaaGreatDoor
open Go.RowKit Go.Sort
set_option linter.unusedVariables false
set_option linter.unusedSimpArgs false
set_option maxRecDepth 100000
attribute [local go_sem] Oper.semAt_some
def splitL (c : UInt8) : List UInt8 → List (List UInt8)
  | [] => [[]]
  | b :: r => if b = c then [] :: splitL c r else match splitL c r with
    | [] => [[b]]
    | p :: ps => (b :: p) :: ps
theorem splitL_ne (c : UInt8) (l : List UInt8) : splitL c l ≠ [] := by
  cases l with
  | nil => simp [splitL]
  | cons b r => unfold splitL; split <;> (try split) <;> simp
theorem indexByte_cons (b c : UInt8) (l : List UInt8) : Lib.indexByte (b :: l) c = if b = c then 0 else if Lib.indexByte l c = -1 then -1 else Lib.indexByte l c + 1 := by
  rw [Lib.indexByte]; simp only [beq_iff_eq]
theorem indexByte_ge (c : UInt8) : ∀ l : List UInt8, -1 ≤ Lib.indexByte l c
  | [] => by simp [Lib.indexByte]
  | b :: l => by have := indexByte_ge c l; rw [indexByte_cons]; split <;> (try split) <;> omega
theorem splitL_miss (c : UInt8) : ∀ l : List UInt8, Lib.indexByte l c < 0 → splitL c l = [l]
  | [], _ => rfl
  | b :: r, h => by
    rw [indexByte_cons] at h
    have hg := indexByte_ge c r
    unfold splitL
    by_cases e : b = c
    · rw [if_pos e] at h; omega
    · rw [if_neg e] at h
      have hr : Lib.indexByte r c < 0 := by split at h <;> omega
      rw [if_neg e, splitL_miss c r hr]
theorem splitL_hit (c : UInt8) : ∀ (l : List UInt8) (i : Nat), Lib.indexByte l c = i → splitL c l = l.take i :: splitL c (l.drop (i + 1)) ∧ i < l.length
  | [], i, h => by simp [Lib.indexByte] at h
  | b :: r, i, h => by
    rw [indexByte_cons] at h
    have hg := indexByte_ge c r
    rw [splitL]
    by_cases e : b = c
    · rw [if_pos e] at h
      obtain rfl : i = 0 := by omega
      rw [if_pos e]
      simp
    · rw [if_neg e] at h ⊢
      by_cases h2 : Lib.indexByte r c = -1
      · rw [if_pos h2] at h; omega
      · rw [if_neg h2] at h
        obtain ⟨j, hj⟩ : ∃ j : Nat, Lib.indexByte r c = j := ⟨(Lib.indexByte r c).toNat, by omega⟩
        obtain rfl : i = j + 1 := by omega
        obtain ⟨e1, e2⟩ := splitL_hit c r j hj
        rw [e1]
        simp
        exact e2
def splitB (c : UInt8) (s : ByteArray) : List ByteArray := (splitL c s.data.toList).map fun l => ⟨l.toArray⟩
theorem bytes_ext {a b : ByteArray} (h : a.data.toList = b.data.toList) : a = b := by
  obtain ⟨⟨a⟩⟩ := a; obtain ⟨⟨b⟩⟩ := b; simp at h; rw [h]
theorem splitB_miss (c : UInt8) (s : ByteArray) (h : Lib.indexByte s.data.toList c < 0) : splitB c s = [s] := by
  unfold splitB; rw [splitL_miss c _ h]; rfl
theorem splitB_hit (c : UInt8) (s : ByteArray) (i : Nat) (h : Lib.indexByte s.data.toList c = i) : splitB c s = s.extract 0 i :: splitB c (s.extract (i + 1) s.size) ∧ i < s.size := by
  obtain ⟨e1, e2⟩ := splitL_hit c _ i h
  unfold splitB
  rw [e1, Lib.extract_to_end, List.map_cons]
  refine ⟨congrArg (· :: _) (bytes_ext ?_), by rw [Lib.size_eq]; exact e2⟩
  rw [Lib.extract_data]; simp
theorem drop_head {α : Type} {l : List α} {k : Nat} {x : α} {r : List α} (h : l.drop k = x :: r) : l[k]? = some x := by
  have := List.getElem?_drop (xs := l) (i := k) (j := 0)
  rw [h] at this; simpa using this.symm
def Turns (b : Nat) (W W' : World) : Prop := ∃ v, W' = W.setCell ⟨b, 0, none⟩ v
def curLen (w : World) (b : Nat) : Nat := match w.cell? ⟨b, 0, none⟩ with
  | some (.string s) => s.size
  | _ => 0
set_option maxHeartbeats 4000000 in
theorem splitSeq_iter (b : Nat) (c : UInt8) (s : ByteArray) (w : World) (hs : s.size ≤ 4294967281)
    (h0 : w.cell? ⟨b, 0, none⟩ = some (.string s)) (h1 : w.cell? ⟨b + 1, 0, none⟩ = some (.string ⟨#[c]⟩)) (h2 : w.cell? ⟨b + 2, 0, none⟩ = some (.int .i64 0)) (hf : w.frozen? ⟨b, 0, none⟩ = false) :
    Iter Tryz.prog 213 #[.pointer (some ⟨b + 1, 0, none⟩), .pointer (some ⟨b, 0, none⟩), .pointer (some ⟨b + 2, 0, none⟩)] ((splitB c s).map .string) (Turns b) b (b + 3) w := by
  intro l J Jx W hW _ hJT hY hJ0
  have g0 := cell_keep hW h0
  have g1 := cell_keep hW h1
  have g2 := cell_keep hW h2
  have gf := frozen_keep hW (cell_lt h0) hf
  clear h0 h1 h2 hf hW w
  refine callsIn_of_wp Tryz.func213 rfl trivial ?_ rfl
  simp only [Tryz.ntmps213, List.size_toArray, List.length_cons, List.length_nil, Nat.reduceAdd, Nat.reduceSub, Array.replicate_succ, Array.replicate_zero, List.push_toArray, List.append_toArray, List.nil_append, List.cons_append]
  have HJT := Lib.hid hJT; have HY := Lib.hid hY
  clear hJT hY
  gi_wp2
  gi_loopw [7] (fun _ wr => ∃ (k : Nat) (cur : ByteArray), Hid ((splitB c s).drop k = splitB c cur) ∧ cur.size ≤ 4294967281 ∧ wr.cell? ⟨b, 0, none⟩ = some (.string cur) ∧ wr.cell? ⟨b + 1, 0, none⟩ = some (.string ⟨#[c]⟩) ∧ wr.cell? ⟨b + 2, 0, none⟩ = some (.int .i64 0) ∧ wr.frozen? ⟨b, 0, none⟩ = false ∧ J k wr)
    (fun _ wr => curLen wr b)
  case atStart => exact ⟨0, s, Lib.hid (by simp), hs, g0, g1, g2, gf, hJ0⟩
  case round =>
    clear g0 g1 g2 gf hJ0
    obtain ⟨k, cur, HD, hcur, g0, g1, g2, gf, hJ⟩ := hrel
    have HM := Lib.hid (show curLen wr b = cur.size by simp [curLen, g0])
    by_cases hi : Lib.indexByte cur.data.toList c < 0
    · have hd := HD.out
      rw [splitB_miss c cur hi] at hd
      have hx : ((splitB c s).map Value.string)[k]? = some (.string cur) := by
        have : (splitB c s)[k]? = some cur := drop_head hd
        simp [this]
      have hlen : k + 1 = (splitB c s).length := by
        have := congrArg List.length hd
        simp at this; omega
      obtain ⟨fn, tmps, assign, body, hy, hR⟩ := HY.out k _ wr hx hJ
      have HL := Lib.hid hlen
      clear hd hx hlen HY HJT HD
      obtain ⟨ix, hix⟩ : ∃ ix, Lib.indexByte cur.data.toList c = ix := ⟨_, rfl⟩
      have cI := Tryz.strings_Index_one cur c wr
      rw [hix] at cI hi
      have HI := Lib.hid cI
      clear cI hix
      gi_wp2_with (refine ⟨trivial, rfl, ?_⟩; gi_at_call 142; refine (callsIn_wide.2 HI.out).mono ?_; rintro e w' ⟨rfl, hw'⟩; rw [hw'])
      refine ⟨rfl, hR.mono ?_⟩
      rintro e W' (⟨rfl, hJ', hk'⟩ | ⟨rfl, hJx'⟩)
      · gi_wp2
        go_end0
        exact ⟨⟨_, rfl⟩, .inl (by rw [List.length_map, ← HL.out]; exact hJ')⟩
      · gi_wp2
        go_end0
        exact ⟨⟨_, rfl⟩, .inr hJx'⟩
    · obtain ⟨i, hix⟩ : ∃ i : Nat, Lib.indexByte cur.data.toList c = i := ⟨(Lib.indexByte cur.data.toList c).toNat, by omega⟩
      obtain ⟨hd, hil⟩ := splitB_hit c cur i hix
      rw [← HD.out] at hd
      have hx : ((splitB c s).map Value.string)[k]? = some (.string (cur.extract 0 i)) := by
        have : (splitB c s)[k]? = some (cur.extract 0 i) := drop_head hd
        simp [this]
      have hd2 : (splitB c s).drop (k + 1) = splitB c (cur.extract (i + 1) cur.size) := by
        have := congrArg (List.drop 1) hd
        simpa [List.drop_drop] using this
      obtain ⟨fn, tmps, assign, body, hy, hR⟩ := HY.out k _ wr hx hJ
      have HD2 := Lib.hid hd2
      have cI := Tryz.strings_Index_one cur c wr
      rw [hix] at cI
      have HI := Lib.hid cI
      have hsz : (cur.extract (i + 1) cur.size).size ≤ cur.size - (i + 1) := by simp
      clear hd hx hd2 cI hix HD hi
      gi_wp2_with (refine ⟨trivial, rfl, ?_⟩; gi_at_call 142; refine (callsIn_wide.2 HI.out).mono ?_; rintro e w' ⟨rfl, hw'⟩; rw [hw'])
      refine ⟨rfl, hR.mono ?_⟩
      rintro e W' (⟨rfl, hJ', hk'⟩ | ⟨rfl, hJx'⟩)
      · have e0 : W'.cell? ⟨b, 0, none⟩ = some (.string cur) := (World.cell?_of_block (hk' _ (by simp) (by simp))).trans g0
        have e1 : W'.cell? ⟨b + 1, 0, none⟩ = some (.string ⟨#[c]⟩) := (World.cell?_of_block (hk' _ (by simp) (by simp))).trans g1
        have e2 : W'.cell? ⟨b + 2, 0, none⟩ = some (.int .i64 0) := (World.cell?_of_block (hk' _ (by simp) (by simp))).trans g2
        have ef : W'.frozen? ⟨b, 0, none⟩ = false := (World.frozen?_of_block (hk' _ (by simp) (by simp))).trans gf
        clear g0 g1 g2 gf
        gi_wp2
        have hst : (W'.setCell ⟨b, 0, none⟩ (.string (cur.extract (i + 1) cur.size))).cell? ⟨b, 0, none⟩ = some (.string (cur.extract (i + 1) cur.size)) := World.cell?_setCell_same' _ _ _ (by rw [e0]; rfl)
        refine ⟨⟨k + 1, _, HD2, by omega, hst, ?_, ?_, by rw [World.frozen?_setCell]; exact ef, HJT.out _ _ _ hJ' ⟨_, rfl⟩⟩, ?_⟩
        · rw [World.cell?_setCell_other _ _ _ _ (by simp)]; exact e1
        · rw [World.cell?_setCell_other _ _ _ _ (by simp)]; exact e2
        · rw [HM.out, curLen, hst]; dsimp only; omega
      · gi_wp2
        refine bodyPost_ret (results_none rfl _ _ _) rfl ?_
        exact ⟨⟨_, rfl⟩, .inr hJx'⟩
end Go.Proofs.YtocgkpdolgnbgaaGreatDoor
