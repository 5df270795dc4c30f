/- What the condition package's Text returns for a condition that is not valid. -/
import Derived.Test.YtocgkpdolgnbgaaGreatDoorPJB
import Derived.Test.YtocgkpdolgnbgaaGreatDoorProg
import Derived.WalkKit
import Derived.WalkSpells
import Derived.WalkLawsBesides
import Derived.Below
import Derived.Deep.QuietTactic
import Derived.BigQuiet
import Derived.Lib.QuietBelow
import Derived.Lib.Strings
import Derived.Lib.Hide
import Derived.Deep.RegionWith
import Derived.Deep.RegionHeld3
import Derived.Lib.IndexBytes
import Derived.Test.YtocgkpdolgnbgaaGreatDoorPR3
import Derived.Test.YtocgkpdolgnbgaaGreatDoorPJC
import Derived.Test.YtocgkpdolgnbgaaGreatDoorPGL
import Derived.Test.YtocgkpdolgnbgaaGreatDoorPGF
namespace Go.Proofs.YtocgkpdolgnbgaaGreatDoor
open Go.RowKit Go.Sort
set_option linter.unusedVariables false
set_option linter.unusedSimpArgs false
set_option maxRecDepth 100000
set_option maxHeartbeats 4000000 in
theorem text_bad (c : CondV) (m : CondMem) (w : World) (hR : CondReads w c m) (hc : CondFits c) (hv : validC c = false) (hE : Env w) : Calls Tryz.prog 22 #[CondMem.val c m] w (Ret w (.tuple #[.string ⟨#[]⟩, .int .i64 1])) := by
  have c1 := fun W (hb : Below w.heap.size w W) => hv ▸ condValid_any c m W (hR.keep hb) hc.p hc.cl hc.co hc.n1 hc.n2 hc.n3 (hE.keep hb)
  clear hR hc hv hE
  obtain ⟨fr, till, pat, cl, co, si, us⟩ := c
  obtain ⟨A, ca, B, cb, S, cs⟩ := m
  unfold CondMem.val at c1 ⊢
  dsimp only at c1 ⊢
  generalize cl.length = na at *
  generalize co.length = nb at *
  generalize si.length = ns at *
  have C1 := Lib.hid c1
  clear c1
  go_enter Tryz.func22, Tryz.ntmps22
  go_wp2_with (go_at_call 19; refine (C1.out _ (by (repeat (first | exact .refl _ _ | assumption | refine .drew ?_ | refine balloc ?_ _ | refine bdrewN ?_ _ | refine .setCell ?_ (by simp <;> omega) _ | refine bstep ?_ (by assumption))))).mono ?_; rintro e w2 ⟨rfl, hb2⟩)
  go_ret2
  exact ⟨rfl, by (repeat (first | exact .refl _ _ | assumption | refine .drew ?_ | refine balloc ?_ _ | refine bdrewN ?_ _ | refine .setCell ?_ (by simp <;> omega) _ | refine bstep ?_ (by assumption)))⟩
end Go.Proofs.YtocgkpdolgnbgaaGreatDoor
namespace Go.Proofs.YtocgkpdolgnbgaaGreatDoor
open Go.RowKit Go.Sort
set_option linter.unusedVariables false
set_option linter.unusedSimpArgs false
set_option maxRecDepth 100000
def digB (d : Nat) : ByteArray := ⟨#[UInt8.ofNat (48 + d)]⟩
theorem digB_size (d : Nat) : (digB d).size = 1 := rfl
theorem conv1 (W : World) (d c : Nat) (hd : d < 10) (g : Nat) (hg : g = W.heap.size) (a : Int) (ha : a = 48 + (d : Int)) :
    (convert 131 9 (.slice (some ⟨g, 0, none⟩) 1 c)).run Tryz.prog (W.alloc (.cells #[.int .u8 a] 5)) = .ok (.string (digB d)) (W.alloc (.cells #[.int .u8 a] 5)) := by
  subst hg
  subst ha
  have hx : Blk (W.alloc (.cells #[.int .u8 (48 + (d : Int))] 5)) W.heap.size 5 #[.int .u8 (48 + (d : Int))] (0, 0) := World.alloc_heap_new _ _
  refine run_convert_bytes_back _ _ _ 5 ⟨W.heap.size, 0, none⟩ c [UInt8.ofNat (48 + d)] Tryz.underlying131 Tryz.underlying5 Tryz.underlying9 (fun j hj => ?_)
  have e1 := u8_of (48 + d) (by omega)
  rw [show (⟨W.heap.size, 0, none⟩ : Addr).add j = ⟨W.heap.size, 0 + j, none⟩ by unfold Addr.add; split <;> simp_all]
  rcases j with _ | j
  · have := hx.cell 0
    simp only [List.getElem_cons_zero]
    rw [e1]
    simp
  · simp at hj
theorem decB_step (m : Nat) (h : ¬ m < 10) (t : ByteArray) : (⟨(Lib.decDigits (m / 10)).toArray⟩ : ByteArray) ++ (digB (m % 10) ++ t) = (⟨(Lib.decDigits m).toArray⟩ : ByteArray) ++ t := by
  refine bytes_ext ?_
  conv => rhs; rw [Lib.decDigits, dif_neg h]
  simp [digB]
theorem decB_last (m : Nat) (h : m < 10) : digB m = ⟨(Lib.decDigits m).toArray⟩ := by
  rw [Lib.decDigits, dif_pos h]; rfl
set_option maxHeartbeats 4000000 in
theorem rDecimal_any (n : Nat) (w : World) (hn : n ≤ 9223372036854775807) : Calls Tryz.prog 73 #[.int .i64 (n : Int)] w (Ret w (.string (itoaB (n : Int)))) := by
  have hI : itoaB (n : Int) = ⟨(Lib.decDigits n).toArray⟩ := bytes_ext (by rw [itoa_dec _ (by omega)]; simp)
  rw [hI]
  clear hI
  have hlen : (Lib.decDigits n).length ≤ 20 := by rw [Lib.decDigits_length]; exact Lib.nDigits_le20 n (by omega)
  go_enter Tryz.func73, Tryz.ntmps73
  go_wp2
  go_loopw [0, 3] (fun vn vo wr => ∃ (m : Nat) (t : ByteArray), vn = .int .i64 (m : Int) ∧ vo = .string t ∧ m ≤ 9223372036854775807 ∧ Hid ((⟨(Lib.decDigits m).toArray⟩ : ByteArray) ++ t = ⟨(Lib.decDigits n).toArray⟩) ∧ Below w.heap.size w wr) (fun i _ _ => (intOf i).toNat)
  case atStart => exact ⟨n, ⟨#[]⟩, rfl, rfl, hn, Lib.hid (bytes_ext (by simp)), Below.refl _ _⟩
  case round =>
    obtain ⟨m, t, rfl, rfl, hm, HK, hbr⟩ := hrel
    have hts : t.size ≤ 20 := by
      have h1 := congrArg (fun x : ByteArray => x.data.toList.length) HK.out
      simp at h1
      have : t.size = t.data.size := rfl
      omega
    by_cases hlt : m < 10
    · have hcv := fun c => conv1 wr m c hlt wr.heap.size rfl _ rfl
      have hv : digB m ++ t = ⟨(Lib.decDigits n).toArray⟩ := by rw [decB_last m hlt]; exact HK.out
      have HV := Lib.hid hv
      have d1 : decide ((10 : Int) ≤ (m : Int)) = false := decide_eq_false (by omega)
      have b1 : (m : Int) ≤ 9 := by omega
      have z1 := digB_size m
      have n1 : ¬ 9223372036854775807 < 1 + t.size := by omega
      clear HK hv
      go_wp2
      go_ret
      exact ⟨ret_str HV.out, by (repeat (first | exact .refl _ _ | assumption | refine .drew ?_ | refine balloc ?_ _ | refine bdrewN ?_ _ | refine .setCell ?_ (by simp <;> omega) _ | refine bstep ?_ (by assumption)))⟩
    · have hcv := fun c => conv1 wr (m % 10) c (by omega) wr.heap.size rfl (48 + (m : Int) % 10) (by omega)
      have HV := Lib.hid ((decB_step m hlt t).trans HK.out)
      have d1 : decide ((10 : Int) ≤ (m : Int)) = true := decide_eq_true (by omega)
      have b3 : (m : Int) % 10 ≤ 9 := by omega
      have b4 : 0 ≤ (m : Int) % 10 := by omega
      have z1 := digB_size (m % 10)
      have n1 : ¬ 9223372036854775807 < 1 + t.size := by omega
      clear HK
      go_wp2
      exact ⟨⟨m / 10, _, by go_num, rfl, by omega, HV, by (repeat (first | exact .refl _ _ | assumption | refine .drew ?_ | refine balloc ?_ _ | refine bdrewN ?_ _ | refine .setCell ?_ (by simp <;> omega) _ | refine bstep ?_ (by assumption)))⟩, by simp [intOf]; omega⟩
def joinR (l : List ByteArray) : ByteArray := if l = [] then ⟨#[126]⟩ else commaT l
theorem joinR_eq {l : List ByteArray} (h : ∀ x ∈ l, x.size ≠ 0) : joinR l = joinT l := by
  unfold joinR joinT orT
  cases l with
  | nil => rfl
  | cons x r =>
    obtain ⟨b, t, hb, he⟩ := comma_head (r := r) (h x (by simp))
    have hs : ¬ (commaT (x :: r)).size = 0 := by rw [Lib.size_eq, he]; simp
    rw [if_neg (by simp), if_neg hs]
set_option maxHeartbeats 4000000 in
theorem rJoined21_any (A : Option Addr) (n c : Nat) (l : List ByteArray) (w : World) (hR : Reads w 1 A n (l.map .string)) (hn : n ≤ 1000000) (htot : (Lib.join (lists l) [44]).length ≤ 1000000000) (hsz : ∀ x ∈ l, x.size ≤ 1000000000) : Calls Tryz.prog 74 #[.slice A n c] w (Ret w (.string (joinR l))) := by
  have hl : l.length = n := by have := hR.1; simpa using this
  obtain ⟨V, hV⟩ : ∃ V, V = joinR l := ⟨_, rfl⟩
  rw [← hV]
  unfold joinR at hV
  by_cases h0 : n = 0
  · subst h0
    obtain rfl : l = [] := List.eq_nil_of_length_eq_zero hl
    obtain rfl : V = ⟨#[126]⟩ := hV
    go_enter Tryz.func74, Tryz.ntmps74
    go_wp2
    go_ret
    exact ⟨rfl, by (repeat (first | exact .refl _ _ | assumption | refine .drew ?_ | refine balloc ?_ _ | refine bdrewN ?_ _ | refine .setCell ?_ (by simp <;> omega) _ | refine bstep ?_ (by assumption)))⟩
  have hne : l ≠ [] := by intro e; rw [e] at hl; simp at hl; omega
  rw [if_neg hne] at hV
  have hend : V = joinB l n := by rw [hV, ← hl, joinB_all]; rfl
  obtain ⟨x0, hx0⟩ : ∃ x, l[0]? = some x := ⟨_, List.getElem?_eq_getElem (by omega)⟩
  have hz0 : ((n : Int) == 0) = false := by simp; omega
  have hfst := joinB_first l x0 hx0
  have HR := Lib.hid hR
  obtain ⟨b0, o0, rfl, hcell0⟩ := hR.2 (by omega)
  have hc0 : w.cell? ⟨b0, o0, none⟩ = some (.string x0) := hcell0 0 _ (by simp [hx0])
  have hn0 : (0 : Int) < (n : Int) := by omega
  have HL := Lib.hid hl
  have HE := Lib.hid hend
  have HT := Lib.hid htot
  have HS := Lib.hid hsz
  have HF := Lib.hid hfst
  clear hl hend htot hsz hR hV hne hcell0 hx0 hfst
  go_enter Tryz.func74, Tryz.ntmps74
  go_wp2
  go_loopw [3, 4] (fun vs vi wr => ∃ k : Nat, vi = .int .i64 (k + 1 : Nat) ∧ k + 1 ≤ n ∧ vs = .string (joinB l (k + 1)) ∧ Below w.heap.size w wr) (fun _ i _ => n - (intOf i).toNat)
  case atStart => exact ⟨0, rfl, by omega, by rw [HF.out], Below.refl _ _⟩
  case round =>
    clear hc0
    obtain ⟨k, rfl, hk, rfl, hbr⟩ := hrel
    by_cases hlt : k + 1 < n
    · obtain ⟨x, hx⟩ : ∃ x, l[k + 1]? = some x := ⟨_, List.getElem?_eq_getElem (by have := HL.out; omega)⟩
      obtain ⟨b, o, hbo, hcell⟩ := (HR.out.keep hbr).2 (by omega)
      injection hbo with hbo
      injection hbo with e1 e2
      subst e1
      subst e2
      have hc1 : wr.cell? ⟨b0, o0 + (k + 1), none⟩ = some (.string x) := hcell (k + 1) _ (by simp [hx])
      have hz1 : (joinB l (k + 1)).size ≤ 1000000000 := Nat.le_trans (joinB_le l (k + 1)) HT.out
      have hz2 : x.size ≤ 1000000000 := HS.out x (List.mem_of_getElem? hx)
      have hk0 : (0 : Int) ≤ (k : Int) := by omega
      have hk1 : (k : Int) + 1 < (n : Int) := by omega
      have HJ := Lib.hid (joinB_step l (k + 1) x (by omega) hx)
      generalize joinB l (k + 1) = S at *
      clear hcell hx
      have n1 : ¬ 9223372036854775807 < S.size + 1 := by omega
      have n2 : ¬ 9223372036854775807 < S.size + 1 + x.size := by omega
      go_wp2
      exact ⟨⟨k + 1, by go_num, by omega, congrArg Value.string HJ.out, hbr⟩, by simp [intOf]; omega⟩
    · obtain rfl : k + 1 = n := by omega
      have he := HE.out
      rw [← he]
      go_wp2
      go_ret
      exact ⟨rfl, hbr⟩
theorem dec_miss {l : List UInt8} {k : Nat} {b : UInt8} (hb : l[k]? = some b) (h : Lib.digitVal b = none) (acc : Nat) : Lib.decFrom acc l = none := by
  cases hd : Lib.decFrom acc l with
  | none => rfl
  | some n =>
    obtain ⟨d, hd2⟩ := Lib.digit_of_decFrom l acc n hd k b hb
    rw [h] at hd2
    cases hd2
theorem dec_lt : ∀ (l : List UInt8) (acc n : Nat), Lib.decFrom acc l = some n → n < (acc + 1) * 10 ^ l.length
  | [], acc, n, h => by simp [Lib.decFrom] at h; subst h; simp
  | b :: l, acc, n, h => by
    simp only [Lib.decFrom] at h
    cases hd : Lib.digitVal b with
    | none => simp [hd] at h
    | some d =>
      simp only [hd] at h
      have h2 := dec_lt l _ n h
      have hd9 : d ≤ 9 := by unfold Lib.digitVal at hd; split at hd <;> simp at hd; omega
      have : (acc * 10 + d + 1) * 10 ^ l.length ≤ (acc + 1) * 10 * 10 ^ l.length := Nat.mul_le_mul_right _ (by omega)
      rw [List.length_cons, Nat.pow_succ]
      calc n < (acc * 10 + d + 1) * 10 ^ l.length := h2
        _ ≤ (acc + 1) * 10 * 10 ^ l.length := this
        _ = (acc + 1) * (10 ^ l.length * 10) := by rw [Nat.mul_assoc, Nat.mul_comm 10]
set_option maxHeartbeats 4000000 in
theorem rNumber_any (s : ByteArray) (w : World) (hs : s.size ≤ 4294967281) : Calls Tryz.prog 66 #[.string s] w (Ret w (.int .i64 (numR s))) := by
  obtain ⟨V, hV⟩ : ∃ V, V = numR s := ⟨_, rfl⟩
  rw [← hV]
  unfold numR at hV
  by_cases h0 : s.size = 0
  · have d0 : ((s.size : Int) == 0) = true := by simp [h0]
    obtain rfl : V = -1 := by rw [hV, if_pos (.inl h0)]
    clear hV h0
    go_enter Tryz.func66, Tryz.ntmps66
    go_wp2
    go_ret
    exact ⟨rfl, by (repeat (first | exact .refl _ _ | assumption | refine .drew ?_ | refine balloc ?_ _ | refine bdrewN ?_ _ | refine .setCell ?_ (by simp <;> omega) _ | refine bstep ?_ (by assumption)))⟩
  have d0 : ((s.size : Int) == 0) = false := beq_eq_false_iff_ne.2 (by omega)
  by_cases h1 : 15 < s.size
  · have d1 : decide ((15 : Int) < (s.size : Int)) = true := decide_eq_true (by omega)
    obtain rfl : V = -1 := by rw [hV, if_pos (.inr h1)]
    clear hV h0
    go_enter Tryz.func66, Tryz.ntmps66
    go_wp2
    go_ret
    exact ⟨rfl, by (repeat (first | exact .refl _ _ | assumption | refine .drew ?_ | refine balloc ?_ _ | refine bdrewN ?_ _ | refine .setCell ?_ (by simp <;> omega) _ | refine bstep ?_ (by assumption)))⟩
  have d1 : decide ((15 : Int) < (s.size : Int)) = false := decide_eq_false (by omega)
  rw [if_neg (by omega)] at hV
  have HV := Lib.hid hV
  clear hV h0
  go_enter Tryz.func66, Tryz.ntmps66
  go_wp2
  go_loopw [3, 4] (fun vn vi wr => ∃ (k m : Nat), vi = .int .i64 k ∧ vn = .int .i64 m ∧ k ≤ s.size ∧ m < 10 ^ 15 ∧ Hid (Lib.decFrom 0 (s.data.toList.take k) = some m) ∧ Below w.heap.size w wr) (fun _ i _ => s.size - (intOf i).toNat)
  case atStart => exact ⟨0, 0, rfl, rfl, Nat.zero_le _, by omega, Lib.hid rfl, Below.refl _ _⟩
  case round =>
    obtain ⟨k, m, rfl, rfl, hk, hm, HK, hbr⟩ := hrel
    by_cases hlt : k < s.size
    · have hkl : k < s.data.toList.length := by rw [← Lib.size_eq]; exact hlt
      have hat := byte_at s k hlt
      have hget : s.data.toList[k]? = some s[k] := by rw [hat]; exact List.getElem?_eq_getElem hkl
      by_cases h48 : 48 ≤ s[k].toNat
      rotate_left
      · have hdv : Lib.digitVal s[k] = none := by unfold Lib.digitVal; rw [if_neg (by omega)]
        obtain rfl : V = -1 := by rw [HV.out, dec_miss hget hdv]
        have e1 : decide ((s[k].toNat : Int) < 48) = true := decide_eq_true (by omega)
        clear HV HK hget hat hdv
        go_wp2
        go_ret
        exact ⟨rfl, by (repeat (first | exact .refl _ _ | assumption | refine .drew ?_ | refine balloc ?_ _ | refine bdrewN ?_ _ | refine .setCell ?_ (by simp <;> omega) _ | refine bstep ?_ (by assumption)))⟩
      have e1 : decide ((s[k].toNat : Int) < 48) = false := decide_eq_false (by omega)
      by_cases h57 : s[k].toNat ≤ 57
      rotate_left
      · have hdv : Lib.digitVal s[k] = none := by unfold Lib.digitVal; rw [if_neg (by omega)]
        obtain rfl : V = -1 := by rw [HV.out, dec_miss hget hdv]
        have e2 : decide ((57 : Int) < (s[k].toNat : Int)) = true := decide_eq_true (by omega)
        clear HV HK hget hat hdv
        go_wp2
        go_ret
        exact ⟨rfl, by (repeat (first | exact .refl _ _ | assumption | refine .drew ?_ | refine balloc ?_ _ | refine bdrewN ?_ _ | refine .setCell ?_ (by simp <;> omega) _ | refine bstep ?_ (by assumption)))⟩
      have e2 : decide ((57 : Int) < (s[k].toNat : Int)) = false := decide_eq_false (by omega)
      have hdv : Lib.digitVal s[k] = some (s[k].toNat - 48) := by unfold Lib.digitVal; rw [if_pos ⟨h48, h57⟩]
      have hnx := Lib.decFrom_take s.data.toList k 0 m _ _ HK.out hget hdv
      have hbd := dec_lt _ _ _ hnx
      have hle : 10 ^ (s.data.toList.take (k + 1)).length ≤ 10 ^ 15 := Nat.pow_le_pow_right (by omega) (by rw [List.length_take]; omega)
      have hm2 : m * 10 + (s[k].toNat - 48) < 10 ^ 15 := by omega
      have HK2 := Lib.hid hnx
      have HM2 := Lib.hid hm2
      clear HK hget hat hdv hnx hbd hle hm2
      go_wp2
      exact ⟨⟨k + 1, m * 10 + (s[k].toNat - 48), by go_num, by (congr 1; omega), by omega, HM2.out, HK2, hbr⟩, by simp [intOf]; omega⟩
    · obtain rfl : V = (m : Int) := by
        have := HK.out
        rw [List.take_of_length_le (by rw [← Lib.size_eq]; omega)] at this
        rw [HV.out, this]
      go_wp2
      go_ret
      exact ⟨rfl, hbr⟩
end Go.Proofs.YtocgkpdolgnbgaaGreatDoor
namespace Go.Proofs.YtocgkpdolgnbgaaGreatDoor
open Go.RowKit Go.Sort
set_option linter.unusedVariables false
set_option linter.unusedSimpArgs false
set_option maxRecDepth 100000
set_option maxHeartbeats 2000000 in
theorem rFields_any (s : ByteArray) (c : UInt8) (w : World) (hs : s.size ≤ 4294967281) : Calls Tryz.prog 65 #[.string s, .int .u8 c.toNat] w (OwnPost (splitB c s) w) := by
  obtain ⟨i0, hi0, hz0, hz1, hz2⟩ := info_parts infoStr
  have HI : Hid ((Tryz.prog.info? 9 = some i0) ∧ i0.zero = some (.string ⟨#[]⟩) ∧ i0.size = 1 ∧ i0.bytes = 16) := Lib.hid ⟨hi0, hz0, hz1, hz2⟩
  clear hi0 hz0 hz1 hz2
  have hsl : s.data.toList.length = s.size := (Lib.size_eq s).symm
  have HSL := Lib.hid hsl
  clear hsl
  go_enter Tryz.func65, Tryz.ntmps65
  go_wp2
  go_loopw [5, 6, 7] (fun vo vf vi wr => ∃ (k f n : Nat) (acc : List ByteArray) (A : Option Addr) (c' : Nat), (vi = .int .i64 k ∧ vf = .int .i64 f ∧ vo = .slice A n c' ∧ k ≤ s.size ∧ f ≤ k ∧ n ≤ k) ∧ Hid (SplitI c s.data.toList k f acc ∧ acc.length = n) ∧ wr.ownsRow w.heap.size 9 1 (.slice A n c') n (acc.map .string) ∧ Below w.heap.size w wr) (fun _ _ i _ => s.size - (intOf i).toNat)
  case atStart => exact ⟨0, 0, 0, [], none, 0, ⟨rfl, rfl, rfl, Nat.zero_le _, Nat.le_refl _, Nat.le_refl _⟩, Lib.hid ⟨⟨Nat.le_refl _, by simp, by simp⟩, rfl⟩, World.ownsRow_nil _ _ _ _, Below.refl _ _⟩
  case round =>
    obtain ⟨k, f, n, acc, A, c', ⟨rfl, rfl, rfl, hk, hf, hn⟩, HK, hown, hbr⟩ := hrel
    have hbs := hbr.size
    by_cases hlt : k < s.size
    · have hd := byte_int s[k] c.toNat
      have hkl : k < s.data.toList.length := by rw [HSL.out]; exact hlt
      have hat := byte_at s k hlt
      cases hb : (s[k].toNat == c.toNat)
      · rw [hb] at hd
        have hne : s.data.toList[k] ≠ c := fun e => by rw [← hat] at e; rw [e] at hb; simp at hb
        have HK2 : Hid (SplitI c s.data.toList (k + 1) f acc ∧ acc.length = n) := Lib.hid ⟨splitI_step HK.out.1 hkl hne, HK.out.2⟩
        clear hb HK hat hne hkl
        go_wp2
        exact ⟨⟨k + 1, f, n, acc, A, c', ⟨by go_num, rfl, rfl, by omega, by omega, by omega⟩, HK2, hown, hbr⟩, by simp [intOf]; omega⟩
      · rw [hb] at hd
        have he : s.data.toList[k] = c := by rw [← hat]; rw [beq_iff_eq] at hb; exact UInt8.toNat_inj.1 hb
        have hpc : toB ((s.data.toList.drop f).take (k - f)) = s.extract f k := bytes_ext (by rw [Lib.extract_data]; rfl)
        have hhit := splitI_hit HK.out.1 hkl he
        rw [hpc] at hhit
        have HK2 : Hid (SplitI c s.data.toList (k + 1) (k + 1) (acc ++ [s.extract f k]) ∧ (acc ++ [s.extract f k]).length = n + 1) := Lib.hid ⟨hhit, by simp [HK.out.2]⟩
        have hk0 : (0 : Int) ≤ (f : Int) := by omega
        have hk1 : (f : Int) ≤ (k : Int) := by omega
        have hk2 : (k : Int) ≤ (s.size : Int) := by omega
        clear hb HK hat he hkl hpc hhit
        go_wp2_with (at_builtin; refine wpList_append_own _ rfl _ _ 22 rfl w.heap.size 9 i0 (.string ⟨#[]⟩) 1 16 Tryz.underlying22 HI.out.1 HI.out.2.1 HI.out.2.2.1 HI.out.2.2.2 rfl (by decide) _ _ _ rfl (hown.alloc _) ⟨wr.heap.size, 0, none⟩ 1 1 [.string (s.extract f k)] rfl rfl (cell_one_new _ _ _) (by simp [Value.oneCell']) (by unfold maxLen; omega) (by omega) (by simp; omega) ?_; intro v' w3 hown' hgrow _; obtain ⟨g', cap', rfl⟩ := ownsRow_succ hown')
        exact ⟨⟨k + 1, k + 1, n + 1, acc ++ [s.extract f k], some ⟨g', 0, none⟩, cap', ⟨by go_num, by go_num, rfl, by omega, by omega, by omega⟩, HK2, by rw [List.map_append]; exact hown', (hbr.alloc hbs _).grown hgrow (by simp; omega) (fun r e => ownsRow_block hown r e)⟩, by simp [intOf]; omega⟩
    · obtain rfl : k = s.size := by omega
      have hpc : toB (s.data.toList.drop f) = s.extract f s.size := bytes_ext (by rw [Lib.extract_to_end]; rfl)
      have hend : splitB c s = acc ++ [s.extract f s.size] := by
        rw [splitB_eq, ← hpc]
        exact splitI_end (by rw [HSL.out]; exact HK.out.1)
      have hlen : (splitB c s).length = n + 1 := by rw [hend]; simp [HK.out.2]
      have HEND := Lib.hid hend
      have HLEN := Lib.hid hlen
      have hk0 : (0 : Int) ≤ (f : Int) := by omega
      have hk1 : (f : Int) ≤ (s.size : Int) := by omega
      clear hpc hend hlen HK
      go_wp2_with (at_builtin; refine wpList_append_own _ rfl _ _ 22 rfl w.heap.size 9 i0 (.string ⟨#[]⟩) 1 16 Tryz.underlying22 HI.out.1 HI.out.2.1 HI.out.2.2.1 HI.out.2.2.2 rfl (by decide) _ _ _ rfl (hown.alloc _) ⟨wr.heap.size, 0, none⟩ 1 1 [.string (s.extract f s.size)] rfl rfl (cell_one_new _ _ _) (by simp [Value.oneCell']) (by unfold maxLen; omega) (by omega) (by simp; omega) ?_; intro v' w3 hown' hgrow _; obtain ⟨g', cap', rfl⟩ := ownsRow_succ hown')
      go_ret
      refine ⟨some ⟨g', 0, none⟩, cap', by rw [HLEN.out]; rfl, ?_, (hbr.alloc hbs _).grown hgrow (by simp; omega) (fun r e => ownsRow_block hown r e)⟩
      rw [HLEN.out, HEND.out, List.map_append]
      exact hown'
theorem OwnPost.reads {ps : List ByteArray} {w w' : World} {e : Ending} (h : OwnPost ps w e w') : ∃ A c, e = .returned (.slice A ps.length c) ∧ Reads w' 1 A ps.length (ps.map .string) ∧ Below w.heap.size w w' := by
  obtain ⟨A, c, h1, h2, h3⟩ := h
  exact ⟨A, c, h1, Reads.of_own h2, h3⟩
end Go.Proofs.YtocgkpdolgnbgaaGreatDoor
