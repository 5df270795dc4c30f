/- The specification's small functions: what its small, text, cut and split return. -/
import Derived.Test.YtocgkpdolgnbgaaGreatDoorMRef1
import Derived.Test.YtocgkpdolgnbgaaGreatDoorMPlainW
import Derived.LoopTactic
import Derived.Test.YtocgkpdolgnbgaaGreatDoorProg
import Derived.WalkKit
import Derived.WalkSpells
import Derived.WalkLawsBesides
import Derived.Below
import Derived.Deep.QuietTactic
import Derived.BigQuiet
import Derived.Lib.QuietBelow
import Derived.Lib.Strings
import Derived.Lib.Hide
import Derived.Deep.RegionWith
import Derived.Deep.RegionHeld3
import Derived.Lib.IndexBytes
import Derived.Test.YtocgkpdolgnbgaaGreatDoorMGB
import Derived.OwnWalk
import Derived.Test.YtocgkpdolgnbgaaGreatDoorMParts
import Derived.Test.YtocgkpdolgnbgaaGreatDoorMPlainX
import Derived.Lib.Join
import Derived.Lib.SlicesCompact
import Derived.Lib.RowBridge
namespace Go.Proofs.YtocgkpdolgnbgaaGreatDoor
open Go.RowKit Go.Sort
set_option linter.unusedVariables false
set_option linter.unusedSimpArgs false
set_option maxRecDepth 100000
theorem at_split (l : List UInt8) (k : Nat) (hk : k < l.length) : l = l.take k ++ l[k] :: l.drop (k + 1) := by
  rw [← List.drop_eq_getElem_cons hk, List.take_append_drop]
theorem byte_at (s : ByteArray) (k : Nat) (h : k < s.size) : s[k] = s.data.toList[k]'(by rw [← Lib.size_eq]; exact h) := by simp; rfl
end Go.Proofs.YtocgkpdolgnbgaaGreatDoor
namespace Go.Proofs.YtocgkpdolgnbgaaGreatDoor
open Go.RowKit Go.Sort
set_option linter.unusedVariables false
set_option linter.unusedSimpArgs false
set_option maxRecDepth 100000
def SplitI (c : UInt8) (l : List UInt8) (k f : Nat) (acc : List ByteArray) : Prop := f ≤ k ∧ c ∉ (l.drop f).take (k - f) ∧ (splitL c l).map toB = acc ++ (splitL c (l.drop f)).map toB
theorem splitI_step {c : UInt8} {l : List UInt8} {k f : Nat} {acc : List ByteArray} (h : SplitI c l k f acc) (hk : k < l.length) (hne : l[k] ≠ c) : SplitI c l (k + 1) f acc := by
  obtain ⟨h1, h2, h3⟩ := h
  refine ⟨by omega, ?_, h3⟩
  have hl : k - f < (l.drop f).length := by rw [List.length_drop]; omega
  rw [show k + 1 - f = (k - f) + 1 by omega, List.take_succ_eq_append_getElem hl]
  simp only [List.mem_append, List.mem_singleton, not_or]
  refine ⟨h2, ?_⟩
  rw [List.getElem_drop]
  intro e
  apply hne
  rw [e]
  congr 1
  omega
theorem splitI_hit {c : UInt8} {l : List UInt8} {k f : Nat} {acc : List ByteArray} (h : SplitI c l k f acc) (hk : k < l.length) (he : l[k] = c) : SplitI c l (k + 1) (k + 1) (acc ++ [toB ((l.drop f).take (k - f))]) := by
  obtain ⟨h1, h2, h3⟩ := h
  refine ⟨Nat.le_refl _, by simp, ?_⟩
  have hl : k - f < (l.drop f).length := by rw [List.length_drop]; omega
  have hs := at_split (l.drop f) (k - f) hl
  have e1 : (l.drop f)[k - f] = c := by
    rw [List.getElem_drop, ← he]
    congr 1
    omega
  rw [e1, List.drop_drop, show f + (k - f + 1) = k + 1 by omega] at hs
  have hsp : splitL c (l.drop f) = (l.drop f).take (k - f) :: splitL c (l.drop (k + 1)) := by
    conv => lhs; rw [hs]
    exact split_hit _ _ _ h2
  rw [h3, hsp]
  simp
theorem splitI_end {c : UInt8} {l : List UInt8} {f : Nat} {acc : List ByteArray} (h : SplitI c l l.length f acc) : (splitL c l).map toB = acc ++ [toB (l.drop f)] := by
  obtain ⟨h1, h2, h3⟩ := h
  rw [List.take_of_length_le (by rw [List.length_drop]; omega)] at h2
  rw [h3, split_none _ _ h2]
  rfl
theorem splitB_eq (c : UInt8) (s : ByteArray) : splitB c s = (splitL c s.data.toList).map toB := rfl
def OwnPost (ps : List ByteArray) (w : World) (e : Ending) (w' : World) : Prop := ∃ A c, e = .returned (.slice A ps.length c) ∧ w'.ownsRow w.heap.size 9 1 (.slice A ps.length c) ps.length (ps.map .string) ∧ Below w.heap.size w w'
set_option maxHeartbeats 2000000 in
theorem rSplit_any (s : ByteArray) (c : UInt8) (w : World) (hs : s.size ≤ 4294967281) : Calls Tryz.prog 138 #[.string s, .int .u8 c.toNat] w (OwnPost (splitB c s) w) := by
  obtain ⟨i0, hi0, hz0, hz1, hz2⟩ := info_parts infoStr
  have HI : Hid ((Tryz.prog.info? 9 = some i0) ∧ i0.zero = some (.string ⟨#[]⟩) ∧ i0.size = 1 ∧ i0.bytes = 16) := Lib.hid ⟨hi0, hz0, hz1, hz2⟩
  clear hi0 hz0 hz1 hz2
  have hsl : s.data.toList.length = s.size := (Lib.size_eq s).symm
  have HSL := Lib.hid hsl
  clear hsl
  go_enter Tryz.func138, Tryz.ntmps138
  go_wp2
  go_loopw [5, 6, 7] (fun vo vf vi wr => ∃ (k f n : Nat) (acc : List ByteArray) (A : Option Addr) (c' : Nat), (vi = .int .i64 k ∧ vf = .int .i64 f ∧ vo = .slice A n c' ∧ k ≤ s.size ∧ f ≤ k ∧ n ≤ k) ∧ Hid (SplitI c s.data.toList k f acc ∧ acc.length = n) ∧ wr.ownsRow w.heap.size 9 1 (.slice A n c') n (acc.map .string) ∧ Below w.heap.size w wr) (fun _ _ i _ => s.size - (intOf i).toNat)
  case atStart => exact ⟨0, 0, 0, [], none, 0, ⟨rfl, rfl, rfl, Nat.zero_le _, Nat.le_refl _, Nat.le_refl _⟩, Lib.hid ⟨⟨Nat.le_refl _, by simp, by simp⟩, rfl⟩, World.ownsRow_nil _ _ _ _, Below.refl _ _⟩
  case round =>
    obtain ⟨k, f, n, acc, A, c', ⟨rfl, rfl, rfl, hk, hf, hn⟩, HK, hown, hbr⟩ := hrel
    have hbs := hbr.size
    by_cases hlt : k < s.size
    · have hd := byte_int s[k] c.toNat
      have hkl : k < s.data.toList.length := by rw [HSL.out]; exact hlt
      have hat := byte_at s k hlt
      cases hb : (s[k].toNat == c.toNat)
      · rw [hb] at hd
        have hne : s.data.toList[k] ≠ c := fun e => by rw [← hat] at e; rw [e] at hb; simp at hb
        have HK2 : Hid (SplitI c s.data.toList (k + 1) f acc ∧ acc.length = n) := Lib.hid ⟨splitI_step HK.out.1 hkl hne, HK.out.2⟩
        clear hb HK hat hne hkl
        go_wp2
        exact ⟨⟨k + 1, f, n, acc, A, c', ⟨by go_num, rfl, rfl, by omega, by omega, by omega⟩, HK2, hown, hbr⟩, by simp [intOf]; omega⟩
      · rw [hb] at hd
        have he : s.data.toList[k] = c := by rw [← hat]; rw [beq_iff_eq] at hb; exact UInt8.toNat_inj.1 hb
        have hpc : toB ((s.data.toList.drop f).take (k - f)) = s.extract f k := bytes_ext (by rw [Lib.extract_data]; rfl)
        have hhit := splitI_hit HK.out.1 hkl he
        rw [hpc] at hhit
        have HK2 : Hid (SplitI c s.data.toList (k + 1) (k + 1) (acc ++ [s.extract f k]) ∧ (acc ++ [s.extract f k]).length = n + 1) := Lib.hid ⟨hhit, by simp [HK.out.2]⟩
        have hk0 : (0 : Int) ≤ (f : Int) := by omega
        have hk1 : (f : Int) ≤ (k : Int) := by omega
        have hk2 : (k : Int) ≤ (s.size : Int) := by omega
        clear hb HK hat he hkl hpc hhit
        go_wp2_with (at_builtin; refine wpList_append_own _ rfl _ _ 22 rfl w.heap.size 9 i0 (.string ⟨#[]⟩) 1 16 Tryz.underlying22 HI.out.1 HI.out.2.1 HI.out.2.2.1 HI.out.2.2.2 rfl (by decide) _ _ _ rfl (hown.alloc _) ⟨wr.heap.size, 0, none⟩ 1 1 [.string (s.extract f k)] rfl rfl (cell_one_new _ _ _) (by simp [Value.oneCell']) (by unfold maxLen; omega) (by omega) (by simp; omega) ?_; intro v' w3 hown' hgrow _; obtain ⟨g', cap', rfl⟩ := ownsRow_succ hown')
        exact ⟨⟨k + 1, k + 1, n + 1, acc ++ [s.extract f k], some ⟨g', 0, none⟩, cap', ⟨by go_num, by go_num, rfl, by omega, by omega, by omega⟩, HK2, by rw [List.map_append]; exact hown', (hbr.alloc hbs _).grown hgrow (by simp; omega) (fun r e => ownsRow_block hown r e)⟩, by simp [intOf]; omega⟩
    · obtain rfl : k = s.size := by omega
      have hpc : toB (s.data.toList.drop f) = s.extract f s.size := bytes_ext (by rw [Lib.extract_to_end]; rfl)
      have hend : splitB c s = acc ++ [s.extract f s.size] := by
        rw [splitB_eq, ← hpc]
        exact splitI_end (by rw [HSL.out]; exact HK.out.1)
      have hlen : (splitB c s).length = n + 1 := by rw [hend]; simp [HK.out.2]
      have HEND := Lib.hid hend
      have HLEN := Lib.hid hlen
      have hk0 : (0 : Int) ≤ (f : Int) := by omega
      have hk1 : (f : Int) ≤ (s.size : Int) := by omega
      clear hpc hend hlen HK
      go_wp2_with (at_builtin; refine wpList_append_own _ rfl _ _ 22 rfl w.heap.size 9 i0 (.string ⟨#[]⟩) 1 16 Tryz.underlying22 HI.out.1 HI.out.2.1 HI.out.2.2.1 HI.out.2.2.2 rfl (by decide) _ _ _ rfl (hown.alloc _) ⟨wr.heap.size, 0, none⟩ 1 1 [.string (s.extract f s.size)] rfl rfl (cell_one_new _ _ _) (by simp [Value.oneCell']) (by unfold maxLen; omega) (by omega) (by simp; omega) ?_; intro v' w3 hown' hgrow _; obtain ⟨g', cap', rfl⟩ := ownsRow_succ hown')
      go_ret
      refine ⟨some ⟨g', 0, none⟩, cap', by rw [HLEN.out]; rfl, ?_, (hbr.alloc hbs _).grown hgrow (by simp; omega) (fun r e => ownsRow_block hown r e)⟩
      rw [HLEN.out, HEND.out, List.map_append]
      exact hown'
theorem pathK_add (c : ByteArray) (xs : List ByteArray) (k : Nat) (x : ByteArray) (h : xs[k]? = some x) : toB (pathK c xs k) ++ ⟨#[47]⟩ ++ x = toB (pathK c xs (k + 1)) := by
  rw [pathK_succ c xs k x h]
  exact bytes_ext (by simp [toB])
end Go.Proofs.YtocgkpdolgnbgaaGreatDoor
namespace Go.Proofs.YtocgkpdolgnbgaaGreatDoor
open Go.RowKit Go.Sort
set_option linter.unusedVariables false
set_option linter.unusedSimpArgs false
set_option maxRecDepth 100000
def sufB (p : ByteArray) : Bool := decide (1 < p.size) && (p.data.toList.head? == some 42)
def endsB (p w : ByteArray) : Bool := decide (p.size - 1 < w.size) && ((w.extract (w.size - (p.size - 1)) w.size).toList == (p.extract 1 p.size).toList)
def covB (p q : ByteArray) : Bool := p.toList == [42] || p.toList == q.toList || (sufB p && !(q.toList == [42]) && (if sufB q then endsB p (⟨#[97]⟩ ++ q.extract 1 q.size) else endsB p q))
def meetsB (p q : ByteArray) : Bool := covB p q || covB q p
theorem head_byte (s : ByteArray) (h : 0 < s.size) : (s.data.toList.head? == some 42) = (s[0].toNat == 42) := by
  have hl : 0 < s.data.toList.length := by rw [← Lib.size_eq]; exact h
  rw [byte_at s 0 h, List.head?_eq_getElem?, List.getElem?_eq_getElem hl, Bool.eq_iff_iff, beq_iff_eq, beq_iff_eq]
  constructor
  · intro e; injection e with e; rw [e]; rfl
  · intro e; exact congrArg some (UInt8.toNat_inj.1 e)
set_option maxHeartbeats 1000000 in
theorem rSuffix_any (p : ByteArray) (w : World) (hp : p.size ≤ 4294967281) : Calls Tryz.prog 140 #[.string p] w (Ret w (.bool (sufB p))) := by
  by_cases h1 : 1 < p.size
  · have d1 : decide ((1 : Int) < (p.size : Int)) = true := decide_eq_true (by omega)
    have hv : sufB p = (p[0].toNat == 42) := by unfold sufB; rw [decide_eq_true h1, head_byte p (by omega)]; rfl
    have hb := byte_int p[0] 42
    rw [← hv] at hb
    clear hv
    generalize sufB p = b at *
    have h0 : (0 : Int) < (p.size : Int) := by omega
    go_enter Tryz.func140, Tryz.ntmps140
    go_wp2
    go_ret
    exact ⟨ret_bool hb, by (repeat (first | exact .refl _ _ | assumption | refine .drew ?_ | refine balloc ?_ _ | refine bdrewN ?_ _ | refine .setCell ?_ (by simp <;> omega) _ | refine bstep ?_ (by assumption)))⟩
  · have d1 : decide ((1 : Int) < (p.size : Int)) = false := decide_eq_false (by omega)
    have hv : sufB p = false := by unfold sufB; rw [decide_eq_false h1]; rfl
    rw [hv]
    clear hv
    go_enter Tryz.func140, Tryz.ntmps140
    go_wp2
    go_ret
    exact ⟨rfl, by (repeat (first | exact .refl _ _ | assumption | refine .drew ?_ | refine balloc ?_ _ | refine bdrewN ?_ _ | refine .setCell ?_ (by simp <;> omega) _ | refine bstep ?_ (by assumption)))⟩
set_option maxHeartbeats 1000000 in
theorem rEnds_any (p s : ByteArray) (w : World) (hp : p.size ≤ 4294967281) (h1 : 1 ≤ p.size) (hs : s.size ≤ 4294967281) : Calls Tryz.prog 141 #[.string p, .string s] w (Ret w (.bool (endsB p s))) := by
  obtain ⟨n, hn⟩ : ∃ n, p.size = n + 1 := ⟨p.size - 1, by omega⟩
  have hi : (p.size : Int) - 1 = (n : Int) := by omega
  unfold endsB
  rw [show p.size - 1 = n by omega]
  by_cases h2 : n < s.size
  · obtain ⟨m, hm⟩ : ∃ m, s.size - n = m := ⟨_, rfl⟩
    have hi2 : (s.size : Int) - (n : Int) = (m : Int) := by omega
    have d1 : decide ((n : Int) < (s.size : Int)) = true := decide_eq_true (by omega)
    have hm0 : (0 : Int) ≤ (m : Int) := by omega
    have hm1 : (m : Int) ≤ (s.size : Int) := by omega
    have hp1 : (1 : Int) ≤ (p.size : Int) := by omega
    rw [hm, decide_eq_true h2, Bool.true_and]
    rw [hn]
    generalize hb : ((s.extract m s.size).toList == (p.extract 1 (n + 1)).toList) = b
    go_enter Tryz.func141, Tryz.ntmps141
    go_wp2_with fail
    go_quiet (fail)
    go_wp2
    go_ret
    exact ⟨rfl, by (repeat (first | exact .refl _ _ | assumption | refine .drew ?_ | refine balloc ?_ _ | refine bdrewN ?_ _ | refine .setCell ?_ (by simp <;> omega) _ | refine bstep ?_ (by assumption)))⟩
  · have d1 : decide ((n : Int) < (s.size : Int)) = false := decide_eq_false (by omega)
    rw [decide_eq_false h2, Bool.false_and]
    go_enter Tryz.func141, Tryz.ntmps141
    go_wp2_with fail
    go_quiet (fail)
    go_wp2
    go_ret
    exact ⟨rfl, by (repeat (first | exact .refl _ _ | assumption | refine .drew ?_ | refine balloc ?_ _ | refine bdrewN ?_ _ | refine .setCell ?_ (by simp <;> omega) _ | refine bstep ?_ (by assumption)))⟩
set_option maxHeartbeats 1000000 in
theorem rCovers_any (p q : ByteArray) (w : World) (hp : p.size ≤ 4294967200) (hq : q.size ≤ 4294967200) : Calls Tryz.prog 106 #[.string p, .string q] w (Ret w (.bool (covB p q))) := by
  have cS := fun W => rSuffix_any p W (by omega)
  have cQ := fun W => rSuffix_any q W (by omega)
  have hsz : sufB p = true → 1 ≤ p.size := by
    intro h; unfold sufB at h; simp only [Bool.and_eq_true, decide_eq_true_eq] at h; omega
  have hsq : sufB q = true → 1 ≤ q.size := by
    intro h; unfold sufB at h; simp only [Bool.and_eq_true, decide_eq_true_eq] at h; omega
  have hz : (⟨#[97]⟩ ++ q.extract 1 q.size : ByteArray).size ≤ 1 + q.size := by
    rw [ByteArray.size_append, ByteArray.size_extract]
    show 1 + _ ≤ _
    omega
  have cE := fun W (h : sufB p = true) => rEnds_any p q W (by omega) (hsz h) (by omega)
  have cE2 := fun W (h : sufB p = true) => rEnds_any p (⟨#[97]⟩ ++ q.extract 1 q.size) W (by omega) (hsz h) (by omega)
  unfold covB
  generalize endsB p q = en at *
  generalize endsB p (⟨#[97]⟩ ++ q.extract 1 q.size) = en2 at *
  generalize sufB p = sf at *
  generalize sufB q = sq at *
  have HSF := Lib.hid cS
  have HSQ := Lib.hid cQ
  clear cS hsz cQ hz
  cases h1 : (p.toList == [42])
  rotate_left
  · clear cE cE2 hsq
    go_enter Tryz.func106, Tryz.ntmps106
    go_wp2
    all_goals (go_ret; exact ⟨rfl, by (repeat (first | exact .refl _ _ | assumption | refine .drew ?_ | refine balloc ?_ _ | refine bdrewN ?_ _ | refine .setCell ?_ (by simp <;> omega) _ | refine bstep ?_ (by assumption)))⟩)
  cases h2 : (p.toList == q.toList)
  rotate_left
  · clear cE cE2 hsq
    go_enter Tryz.func106, Tryz.ntmps106
    go_wp2
    all_goals (go_ret; exact ⟨rfl, by (repeat (first | exact .refl _ _ | assumption | refine .drew ?_ | refine balloc ?_ _ | refine bdrewN ?_ _ | refine .setCell ?_ (by simp <;> omega) _ | refine bstep ?_ (by assumption)))⟩)
  cases sf
  · clear cE cE2 hsq
    go_enter Tryz.func106, Tryz.ntmps106
    go_wp2_with (go_at_call 140; refine (HSF.out _).mono ?_; rintro e w1 ⟨rfl, hb1⟩; clear HSF)
    all_goals (go_ret; exact ⟨rfl, by (repeat (first | exact .refl _ _ | assumption | refine .drew ?_ | refine balloc ?_ _ | refine bdrewN ?_ _ | refine .setCell ?_ (by simp <;> omega) _ | refine bstep ?_ (by assumption)))⟩)
  cases h3 : (q.toList == [42])
  rotate_left
  · clear cE cE2 hsq
    go_enter Tryz.func106, Tryz.ntmps106
    go_wp2_with (go_at_call 140; refine (HSF.out _).mono ?_; rintro e w1 ⟨rfl, hb1⟩; clear HSF)
    all_goals (go_ret; exact ⟨rfl, by (repeat (first | exact .refl _ _ | assumption | refine .drew ?_ | refine balloc ?_ _ | refine bdrewN ?_ _ | refine .setCell ?_ (by simp <;> omega) _ | refine bstep ?_ (by assumption)))⟩)
  cases sq
  · have HEN := Lib.hid (fun W => cE W rfl)
    clear cE cE2 hsq
    go_enter Tryz.func106, Tryz.ntmps106
    go_wp2_with (first | (go_at_call 140; refine (HSF.out _).mono ?_; rintro e w1 ⟨rfl, hb1⟩; clear HSF) | (go_at_call 140; refine (HSQ.out _).mono ?_; rintro e w3 ⟨rfl, hb3⟩) | (go_at_call 141; refine (HEN.out _).mono ?_; rintro e w2 ⟨rfl, hb2⟩))
    go_ret
    exact ⟨ret_bool (by simp), by (repeat (first | exact .refl _ _ | assumption | refine .drew ?_ | refine balloc ?_ _ | refine bdrewN ?_ _ | refine .setCell ?_ (by simp <;> omega) _ | refine bstep ?_ (by assumption)))⟩
  · have HEN := Lib.hid (fun W => cE2 W rfl)
    have hq1 : (1 : Int) ≤ (q.size : Int) := by have := hsq rfl; omega
    clear cE cE2 hsq
    go_enter Tryz.func106, Tryz.ntmps106
    go_wp2_with (first | (go_at_call 140; refine (HSF.out _).mono ?_; rintro e w1 ⟨rfl, hb1⟩; clear HSF) | (go_at_call 140; refine (HSQ.out _).mono ?_; rintro e w3 ⟨rfl, hb3⟩) | (go_at_call 141; refine (HEN.out _).mono ?_; rintro e w2 ⟨rfl, hb2⟩))
    go_ret
    exact ⟨ret_bool (by simp), by (repeat (first | exact .refl _ _ | assumption | refine .drew ?_ | refine balloc ?_ _ | refine bdrewN ?_ _ | refine .setCell ?_ (by simp <;> omega) _ | refine bstep ?_ (by assumption)))⟩
set_option maxHeartbeats 1000000 in
theorem rMeets_any (p q : ByteArray) (w : World) (hp : p.size ≤ 4294967200) (hq : q.size ≤ 4294967200) : Calls Tryz.prog 175 #[.string p, .string q] w (Ret w (.bool (meetsB p q))) := by
  have c1 := fun W => rCovers_any p q W hp hq
  have c2 := fun W => rCovers_any q p W hq hp
  unfold meetsB
  generalize covB p q = a at *
  generalize covB q p = b at *
  have HC1 := Lib.hid c1
  have HC2 := Lib.hid c2
  clear c1 c2
  cases a <;> cases b
  all_goals
    go_enter Tryz.func175, Tryz.ntmps175
    go_wp2_with (first | (go_at_call 106; refine (HC1.out _).mono ?_; rintro e w1 ⟨rfl, hb1⟩; clear HC1) | (go_at_call 106; refine (HC2.out _).mono ?_; rintro e w2 ⟨rfl, hb2⟩))
    go_ret
    exact ⟨rfl, by (repeat (first | exact .refl _ _ | assumption | refine .drew ?_ | refine balloc ?_ _ | refine bdrewN ?_ _ | refine .setCell ?_ (by simp <;> omega) _ | refine bstep ?_ (by assumption)))⟩
def partR (s : ByteArray) : Bool := if decide (2 < s.size) && ((s.extract 0 2).toList == [42, 46]) then decide (s.size ≤ 34) && isWordB (s.extract 2 s.size) else s.toList == [42] || isWordB s
set_option maxHeartbeats 1000000 in
theorem rPart_any (s : ByteArray) (w : World) (hs : s.size ≤ 4294967200) : Calls Tryz.prog 139 #[.string s] w (Ret w (.bool (partR s))) := by
  have c1 := fun W => rWord_any s W (by omega)
  have c2 := fun W => rWord_any (s.extract 2 s.size) W (by rw [ByteArray.size_extract]; omega)
  unfold partR
  generalize isWordB (s.extract 2 s.size) = b2 at *
  generalize isWordB s = b1 at *
  by_cases h1 : 2 < s.size
  · have d1 : decide ((2 : Int) < (s.size : Int)) = true := decide_eq_true (by omega)
    have q2 : (2 : Int) ≤ (s.size : Int) := by omega
    rw [decide_eq_true h1]
    cases h2 : ((s.extract 0 2).toList == [42, 46])
    · simp only [Bool.and_false, Bool.false_eq_true, if_false]
      cases h3 : (s.toList == [42])
      · have HW := Lib.hid c1
        clear c1 c2
        go_enter Tryz.func139, Tryz.ntmps139
        go_wp2_with (go_at_call 116; refine (HW.out _).mono ?_; rintro e w1 ⟨rfl, hb1⟩)
        go_ret
        exact ⟨ret_bool (by simp), by (repeat (first | exact .refl _ _ | assumption | refine .drew ?_ | refine balloc ?_ _ | refine bdrewN ?_ _ | refine .setCell ?_ (by simp <;> omega) _ | refine bstep ?_ (by assumption)))⟩
      · clear c1 c2
        go_enter Tryz.func139, Tryz.ntmps139
        go_wp2
        go_ret
        exact ⟨rfl, by (repeat (first | exact .refl _ _ | assumption | refine .drew ?_ | refine balloc ?_ _ | refine bdrewN ?_ _ | refine .setCell ?_ (by simp <;> omega) _ | refine bstep ?_ (by assumption)))⟩
    · simp only [Bool.and_self, if_true]
      by_cases h4 : s.size ≤ 34
      · have d4 : decide ((s.size : Int) ≤ 34) = true := decide_eq_true (by omega)
        have HW := Lib.hid c2
        rw [decide_eq_true h4]
        clear c1 c2
        go_enter Tryz.func139, Tryz.ntmps139
        go_wp2_with (go_at_call 116; refine (HW.out _).mono ?_; rintro e w1 ⟨rfl, hb1⟩)
        go_ret
        exact ⟨ret_bool (by simp), by (repeat (first | exact .refl _ _ | assumption | refine .drew ?_ | refine balloc ?_ _ | refine bdrewN ?_ _ | refine .setCell ?_ (by simp <;> omega) _ | refine bstep ?_ (by assumption)))⟩
      · have d4 : decide ((s.size : Int) ≤ 34) = false := decide_eq_false (by omega)
        rw [decide_eq_false h4]
        clear c1 c2
        go_enter Tryz.func139, Tryz.ntmps139
        go_wp2
        go_ret
        exact ⟨rfl, by (repeat (first | exact .refl _ _ | assumption | refine .drew ?_ | refine balloc ?_ _ | refine bdrewN ?_ _ | refine .setCell ?_ (by simp <;> omega) _ | refine bstep ?_ (by assumption)))⟩
  · have d1 : decide ((2 : Int) < (s.size : Int)) = false := decide_eq_false (by omega)
    rw [decide_eq_false h1]
    simp only [Bool.false_and, Bool.false_eq_true, if_false]
    cases h3 : (s.toList == [42])
    · have HW := Lib.hid c1
      clear c1 c2
      go_enter Tryz.func139, Tryz.ntmps139
      go_wp2_with (go_at_call 116; refine (HW.out _).mono ?_; rintro e w1 ⟨rfl, hb1⟩)
      go_ret
      exact ⟨ret_bool (by simp), by (repeat (first | exact .refl _ _ | assumption | refine .drew ?_ | refine balloc ?_ _ | refine bdrewN ?_ _ | refine .setCell ?_ (by simp <;> omega) _ | refine bstep ?_ (by assumption)))⟩
    · clear c1 c2
      go_enter Tryz.func139, Tryz.ntmps139
      go_wp2
      go_ret
      exact ⟨rfl, by (repeat (first | exact .refl _ _ | assumption | refine .drew ?_ | refine balloc ?_ _ | refine bdrewN ?_ _ | refine .setCell ?_ (by simp <;> omega) _ | refine bstep ?_ (by assumption)))⟩
end Go.Proofs.YtocgkpdolgnbgaaGreatDoor
namespace Go.Proofs.YtocgkpdolgnbgaaGreatDoor
open Go.RowKit Go.Sort
set_option linter.unusedVariables false
set_option linter.unusedSimpArgs false
set_option maxRecDepth 100000
def strP (p : Part) : ByteArray := stringP p.kind p.text
theorem sufB_word {s : ByteArray} (h : isWordB s = true) : sufB s = false := by
  have h42 := (word_no h).2.2.2.2.1
  unfold sufB
  rw [Bool.and_eq_false_iff]
  right
  rw [beq_eq_false_iff_ne]
  intro e
  exact h42 (List.mem_of_mem_head? (by rw [e]; rfl))
theorem ends_star {p t : ByteArray} (w : ByteArray) (h : p.data.toList = 42 :: t.data.toList) : endsB p w = (decide (t.size < w.size) && Lib.hasSuffix w.data.toList t.data.toList) := by
  have hz : p.size = t.size + 1 := by rw [size_data, h, size_data]; rfl
  have e : p.extract 1 p.size = t := bytes_ext (by rw [extract_data, h]; rfl)
  unfold endsB
  rw [e, hz, hasSuffix_if, Nat.add_sub_cancel]
  by_cases hl : t.size < w.size
  · rw [decide_eq_true hl, decide_eq_true (show t.size ≤ w.size by omega), Bool.true_and, Bool.true_and]
  · rw [decide_eq_false hl, Bool.false_and, Bool.false_and]
theorem toList_eq (a b : ByteArray) : (a.toList == b.toList) = (a.data.toList == b.data.toList) := by rw [Lib.toList_data, Lib.toList_data]
theorem word_star {w : ByteArray} (h : isWordB w = true) (l : List UInt8) : w.data.toList ≠ 42 :: l := fun e => (word_no h).2.2.2.2.1 (by rw [e]; simp)
theorem fit_end {p : Part} (h : p.kind = 1 ∧ ∃ s : ByteArray, isWordB s = true ∧ s.size ≤ 32 ∧ p.text.data.toList = 46 :: s.data.toList) : p.text.data.toList ≠ [] ∧ 1 ≤ p.text.size := by
  obtain ⟨_, s, _, _, h⟩ := h
  rw [size_data, h]
  exact ⟨by simp, by simp⟩
theorem str0 {p : Part} (h : p.kind = 0) : strP p = p.text := by unfold strP stringP; rw [if_pos h]
theorem str_star {p : Part} (h : p.kind ≠ 0) : (strP p).data.toList = 42 :: p.text.data.toList := by
  unfold strP; rw [str_data, if_neg h]
theorem suf_star {p : Part} (h : p.kind ≠ 0) (hz : 1 ≤ p.text.size) : sufB (strP p) = true := by
  unfold sufB
  have e := str_star h
  rw [size_data, e]
  rw [size_data] at hz
  rw [decide_eq_true (show 1 < (42 :: p.text.data.toList).length by simp only [List.length_cons]; omega)]
  rfl
theorem cov_covers {p q : Part} (hp : PartFit p) (hq : PartFit q) : covB (strP p) (strP q) = coversP p.kind p.text q.kind q.text := by
  rw [Bool.eq_iff_iff]
  unfold covB
  have sq : ∀ h : q.kind = 0, isWordB q.text = true := fun h => by
    rcases hq with ⟨_, h2⟩ | ⟨h2, _⟩ | ⟨h2, _⟩
    · exact h2
    · omega
    · omega
  rcases hp with ⟨hk, ht⟩ | h1 | ⟨hk, ht⟩
  · have h42 : ((strP p).toList == [42]) = false := by
      rw [str0 hk, Lib.toList_data, beq_eq_false_iff_ne]; exact word_star ht []
    rw [h42, Bool.false_or, str0 hk, sufB_word ht, Bool.false_and, Bool.false_and, Bool.or_false, hk, toList_eq, beq_iff_eq]
    rcases hq with ⟨hk2, ht2⟩ | h2 | ⟨hk2, ht2⟩
    · rw [hk2, cov0, has0, str0 hk2]
      exact ⟨fun h => bytes_ext h, fun h => by rw [h]⟩
    · rw [h2.1, cov1, str_star (p := q) (by omega)]
      constructor
      · intro h; exact absurd h (word_star ht _)
      · rintro (h | ⟨h, _⟩) <;> cases h
    · rw [hk2, cov2, str_star (p := q) (by omega)]
      constructor
      · intro h; exact absurd h (word_star ht _)
      · intro h; cases h
  · obtain ⟨hne, hz⟩ := fit_end h1
    have hk := h1.1
    have e := str_star (p := p) (by omega)
    have h42 : ((strP p).toList == [42]) = false := by
      rw [Lib.toList_data, e, beq_eq_false_iff_ne]
      intro h; injection h with _ h; exact hne h
    rw [h42, Bool.false_or, suf_star (by omega) hz, Bool.true_and, hk]
    rcases hq with ⟨hk2, ht2⟩ | h2 | ⟨hk2, ht2⟩
    · have h43 : ((strP p).toList == (strP q).toList) = false := by
        rw [toList_eq, e, str0 hk2, beq_eq_false_iff_ne]
        exact fun h => word_star ht2 _ h.symm
      have h44 : ((strP q).toList == [42]) = false := by
        rw [str0 hk2, Lib.toList_data, beq_eq_false_iff_ne]; exact word_star ht2 []
      rw [h43, h44, Bool.false_or, Bool.not_false, Bool.true_and, str0 hk2, sufB_word ht2, hk2, cov0, has1]
      simp only [Bool.false_eq_true, if_false]
      rw [ends_star _ e]
      simp only [Bool.and_eq_true, decide_eq_true_eq, Lib.hasSuffix, List.isSuffixOf_iff_suffix]
    · obtain ⟨hne2, hz2⟩ := fit_end h2
      have e2 := str_star (p := q) (by omega)
      have h44 : ((strP q).toList == [42]) = false := by
        rw [Lib.toList_data, e2, beq_eq_false_iff_ne]
        intro h; injection h with _ h; exact hne2 h
      have hx : ((⟨#[97]⟩ : ByteArray) ++ (strP q).extract 1 (strP q).size).data.toList = 97 :: q.text.data.toList := by
        have h3 : (strP q).extract 1 (strP q).size = q.text := bytes_ext (by rw [extract_data, e2]; rfl)
        rw [h3]; simp
      rw [h44, Bool.not_false, Bool.true_and, suf_star (by omega) hz2, if_pos rfl, ends_star _ e, h2.1, cov1, Bool.or_eq_true, toList_eq, e, e2, beq_iff_eq]
      rw [Bool.and_eq_true, decide_eq_true_eq, size_data, size_data, hx, Lib.hasSuffix, List.isSuffixOf_iff_suffix]
      constructor
      · rintro (h | ⟨h3, h4⟩)
        · injection h with _ h
          right; exact ⟨rfl, by rw [h]; exact List.suffix_refl _⟩
        · right
          refine ⟨rfl, ?_⟩
          rcases List.suffix_cons_iff.1 h4 with h5 | h5
          · rw [h5] at h3; simp at h3
          · exact h5
      · rintro (h | ⟨_, h⟩)
        · cases h
        · right
          have := h.length_le
          exact ⟨by simp only [List.length_cons]; omega, h.trans (List.suffix_cons _ _)⟩
    · have e2 := str_star (p := q) (by omega)
      have h43 : ((strP p).toList == (strP q).toList) = false := by
        rw [toList_eq, e, e2, beq_eq_false_iff_ne, ht2]
        intro h; injection h with _ h; exact hne h
      have h44 : ((strP q).toList == [42]) = true := by
        rw [Lib.toList_data, e2, ht2]; rfl
      rw [h43, h44, hk2, cov2]
      simp
  · have e := str_star (p := p) (by omega)
    have h42 : ((strP p).toList == [42]) = true := by rw [Lib.toList_data, e, ht]; rfl
    rw [h42, Bool.true_or, Bool.true_or, hk]
    refine ⟨fun _ => ?_, fun _ => rfl⟩
    rcases hq with ⟨hk2, ht2⟩ | h2 | ⟨hk2, ht2⟩
    · rw [hk2, cov0]; exact has2 _ _
    · rw [h2.1, cov1]; exact .inl rfl
    · rw [hk2, cov2]
theorem part_ok (s : ByteArray) : partR s = partOkB s := by
  unfold partR partOkB
  have hx : ((s.extract 0 2).toList == [42, 46]) = Lib.hasPrefix s.data.toList [42, 46] := by
    rw [Lib.toList_data, Lib.extract_data]
    unfold Lib.hasPrefix
    rw [Bool.eq_iff_iff, beq_iff_eq, List.isPrefixOf_iff_prefix]
    constructor
    · intro h
      refine ⟨s.data.toList.drop 2, ?_⟩
      rw [← h]
      simp
    · rintro ⟨r, h⟩
      rw [← h]; simp
  rw [hx]
  cases hp : Lib.hasPrefix s.data.toList [42, 46]
  · simp
  · obtain ⟨r, hr⟩ := prefix_two hp
    have e : (s.extract 2 s.size).data.toList = r := by rw [extract_data, hr]; rfl
    have hz : s.size = r.length + 2 := by rw [size_data, hr]; rfl
    have h42 : (s.toList == [42]) = false := by rw [Lib.toList_data, hr, beq_eq_false_iff_ne]; simp
    have hw : isWordB s = false := by
      cases h : isWordB s
      · rfl
      · exact absurd hr (word_star h _)
    rw [h42, hw]
    simp only [Bool.and_true, Bool.false_or, Bool.and_true]
    by_cases h2 : 2 < s.size
    · rw [if_pos (by simpa using h2)]
    · rw [if_neg (by simpa using h2)]
      have : isWordB (s.extract 2 s.size) = false := by
        cases h : isWordB (s.extract 2 s.size)
        · rfl
        · have := (word_ne h).1
          rw [e] at this
          exact absurd (List.eq_nil_of_length_eq_zero (by omega)) this
      rw [this, Bool.and_false]
end Go.Proofs.YtocgkpdolgnbgaaGreatDoor
namespace Go.Proofs.YtocgkpdolgnbgaaGreatDoor
open Go.RowKit Go.Sort
set_option linter.unusedVariables false
set_option linter.unusedSimpArgs false
set_option maxRecDepth 100000
def ResBox (w : World) (g : Nat) (s : ByteArray) (e : Int) : Prop := Blk w g 157 #[.string s, .int .i64 e] (0, 0)
theorem blk_free0 {w : World} {g : Nat} {t : TypeId} {cs : Array Value} (h : Blk w g t cs (0, 0)) (i : Nat) : w.frozen? ⟨g, i, none⟩ = false := by
  unfold Blk at h
  simp [World.frozen?, h]
theorem ResBox.facts {w : World} {g : Nat} {s : ByteArray} {e : Int} (h : ResBox w g s e) : w.cell? ⟨g, 0, none⟩ = some (.string s) ∧ w.cell? ⟨g, 1, none⟩ = some (.int .i64 e) ∧ w.frozen? ⟨g, 0, none⟩ = false ∧ w.frozen? ⟨g, 1, none⟩ = false :=
  ⟨Blk.cell h 0, Blk.cell h 1, blk_free0 h 0, blk_free0 h 1⟩
end Go.Proofs.YtocgkpdolgnbgaaGreatDoor
