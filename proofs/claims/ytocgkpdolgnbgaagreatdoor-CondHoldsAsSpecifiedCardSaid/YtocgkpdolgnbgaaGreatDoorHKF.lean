/- Plain: numerals and the text of a condition read back. -/
import Derived.Test.YtocgkpdolgnbgaaGreatDoorHJB
import Derived.Test.YtocgkpdolgnbgaaGreatDoorHPlainX
import Derived.Lib.AtoiTie
import Derived.Lib.AtoiAllCases
import Derived.Test.YtocgkpdolgnbgaaGreatDoorProg
import Derived.WalkKit
import Derived.WalkSpells
import Derived.WalkLawsBesides
import Derived.Below
import Derived.Deep.QuietTactic
import Derived.BigQuiet
import Derived.Lib.QuietBelow
import Derived.Lib.Strings
import Derived.Lib.Hide
import Derived.Deep.RegionWith
import Derived.Deep.RegionHeld3
import Derived.Lib.IndexBytes
import Derived.Test.YtocgkpdolgnbgaaGreatDoorHKE
import Derived.Test.YtocgkpdolgnbgaaGreatDoorHJC
import Derived.Test.YtocgkpdolgnbgaaGreatDoorHKA
import Derived.Test.YtocgkpdolgnbgaaGreatDoorHJA
import Derived.Test.YtocgkpdolgnbgaaGreatDoorHJE
namespace Go.Proofs.YtocgkpdolgnbgaaGreatDoor
open Go.RowKit Go.Sort
set_option linter.unusedVariables false
set_option linter.unusedSimpArgs false
set_option maxRecDepth 100000
theorem dec_digit (u : Nat) : ∀ b ∈ Lib.decDigits u, 48 ≤ b.toNat ∧ b.toNat ≤ 57 := by
  induction u using Nat.strongRecOn with
  | _ u ih =>
    intro b hb
    by_cases h : u < 10
    · rw [Lib.decDigits, dif_pos h, List.mem_singleton] at hb
      subst hb
      rw [UInt8.toNat_ofNat']; omega
    · rw [Lib.decDigits, dif_neg h, List.mem_append, List.mem_singleton] at hb
      rcases hb with hb | rfl
      · exact ih (u / 10) (by omega) b hb
      · rw [UInt8.toNat_ofNat']; omega
theorem itoa_dec (n : Int) (h : 0 ≤ n) : (itoaB n).data.toList = Lib.decDigits n.toNat := by
  unfold itoaB Lib.itoa
  rw [if_neg (by omega)]
theorem letter_not (b : UInt8) (h : letterB b = true) : b ≠ 32 ∧ b ≠ 44 ∧ b ≠ 126 := by
  refine ⟨?_, ?_, ?_⟩ <;> (rintro rfl; revert h; decide)
theorem name_not {s : ByteArray} (h : isNameB s = true) : s.size ≠ 0 ∧ 32 ∉ s.data.toList ∧ 44 ∉ s.data.toList ∧ 126 ∉ s.data.toList := by
  have hw := word_letters (name_word h)
  have h1 := (word_ne (name_word h)).1
  refine ⟨fun e => h1 (List.eq_nil_of_length_eq_zero (by rw [← Lib.size_eq]; exact e)), fun hm => (letter_not _ (hw _ hm)).1 rfl, fun hm => (letter_not _ (hw _ hm)).2.1 rfl, fun hm => (letter_not _ (hw _ hm)).2.2 rfl⟩
theorem country_not {s : ByteArray} (h : countryB s = true) : s.size ≠ 0 ∧ 32 ∉ s.data.toList ∧ 44 ∉ s.data.toList ∧ 126 ∉ s.data.toList := by
  unfold countryB at h
  simp only [Bool.and_eq_true, decide_eq_true_eq, List.all_eq_true] at h
  obtain ⟨h1, h2⟩ := h
  refine ⟨by omega, fun hm => ?_, fun hm => ?_, fun hm => ?_⟩ <;> exact absurd (h2 _ hm) (by decide)
theorem num_not (n : Int) (h0 : 0 ≤ n) : (itoaB n).size ≠ 0 ∧ 32 ∉ (itoaB n).data.toList ∧ 44 ∉ (itoaB n).data.toList ∧ 126 ∉ (itoaB n).data.toList := by
  have hd := dec_digit n.toNat
  have hl : 1 ≤ (Lib.decDigits n.toNat).length := by rw [Lib.decDigits_length]; exact Lib.nDigits_pos _
  rw [Lib.size_eq, itoa_dec n h0]
  refine ⟨by omega, fun hm => ?_, fun hm => ?_, fun hm => ?_⟩ <;> exact absurd (hd _ hm) (by decide)
theorem comma_head {x : ByteArray} {r : List ByteArray} (h0 : x.size ≠ 0) : ∃ b t, b ∈ x.data.toList ∧ (commaT (x :: r)).data.toList = b :: t := by
  unfold commaT
  rw [List.map_cons, Lib.join_cons]
  cases hx : x.data.toList with
  | nil => rw [Lib.size_eq, hx] at h0; simp at h0
  | cons b t => exact ⟨b, _, by simp, rfl⟩
end Go.Proofs.YtocgkpdolgnbgaaGreatDoor
namespace Go.Proofs.YtocgkpdolgnbgaaGreatDoor
open Go.RowKit Go.Sort
set_option linter.unusedVariables false
set_option linter.unusedSimpArgs false
set_option maxRecDepth 100000
def digB (d : Nat) : ByteArray := ⟨#[UInt8.ofNat (48 + d)]⟩
theorem digB_size (d : Nat) : (digB d).size = 1 := rfl
theorem conv1 (W : World) (d c : Nat) (hd : d < 10) (g : Nat) (hg : g = W.heap.size) (a : Int) (ha : a = 48 + (d : Int)) :
    (convert 131 9 (.slice (some ⟨g, 0, none⟩) 1 c)).run Tryz.prog (W.alloc (.cells #[.int .u8 a] 5)) = .ok (.string (digB d)) (W.alloc (.cells #[.int .u8 a] 5)) := by
  subst hg
  subst ha
  have hx : Blk (W.alloc (.cells #[.int .u8 (48 + (d : Int))] 5)) W.heap.size 5 #[.int .u8 (48 + (d : Int))] (0, 0) := World.alloc_heap_new _ _
  refine run_convert_bytes_back _ _ _ 5 ⟨W.heap.size, 0, none⟩ c [UInt8.ofNat (48 + d)] Tryz.underlying131 Tryz.underlying5 Tryz.underlying9 (fun j hj => ?_)
  have e1 := u8_of (48 + d) (by omega)
  rw [show (⟨W.heap.size, 0, none⟩ : Addr).add j = ⟨W.heap.size, 0 + j, none⟩ by unfold Addr.add; split <;> simp_all]
  rcases j with _ | j
  · have := hx.cell 0
    simp only [List.getElem_cons_zero]
    rw [e1]
    simp
  · simp at hj
theorem decB_step (m : Nat) (h : ¬ m < 10) (t : ByteArray) : (⟨(Lib.decDigits (m / 10)).toArray⟩ : ByteArray) ++ (digB (m % 10) ++ t) = (⟨(Lib.decDigits m).toArray⟩ : ByteArray) ++ t := by
  refine bytes_ext ?_
  conv => rhs; rw [Lib.decDigits, dif_neg h]
  simp [digB]
theorem decB_last (m : Nat) (h : m < 10) : digB m = ⟨(Lib.decDigits m).toArray⟩ := by
  rw [Lib.decDigits, dif_pos h]; rfl
set_option maxHeartbeats 4000000 in
theorem rDecimal_any (n : Nat) (w : World) (hn : n ≤ 9223372036854775807) : Calls Tryz.prog 73 #[.int .i64 (n : Int)] w (Ret w (.string (itoaB (n : Int)))) := by
  have hI : itoaB (n : Int) = ⟨(Lib.decDigits n).toArray⟩ := bytes_ext (by rw [itoa_dec _ (by omega)]; simp)
  rw [hI]
  clear hI
  have hlen : (Lib.decDigits n).length ≤ 20 := by rw [Lib.decDigits_length]; exact Lib.nDigits_le20 n (by omega)
  go_enter Tryz.func73, Tryz.ntmps73
  go_wp2
  go_loopw [0, 3] (fun vn vo wr => ∃ (m : Nat) (t : ByteArray), vn = .int .i64 (m : Int) ∧ vo = .string t ∧ m ≤ 9223372036854775807 ∧ Hid ((⟨(Lib.decDigits m).toArray⟩ : ByteArray) ++ t = ⟨(Lib.decDigits n).toArray⟩) ∧ Below w.heap.size w wr) (fun i _ _ => (intOf i).toNat)
  case atStart => exact ⟨n, ⟨#[]⟩, rfl, rfl, hn, Lib.hid (bytes_ext (by simp)), Below.refl _ _⟩
  case round =>
    obtain ⟨m, t, rfl, rfl, hm, HK, hbr⟩ := hrel
    have hts : t.size ≤ 20 := by
      have h1 := congrArg (fun x : ByteArray => x.data.toList.length) HK.out
      simp at h1
      have : t.size = t.data.size := rfl
      omega
    by_cases hlt : m < 10
    · have hcv := fun c => conv1 wr m c hlt wr.heap.size rfl _ rfl
      have hv : digB m ++ t = ⟨(Lib.decDigits n).toArray⟩ := by rw [decB_last m hlt]; exact HK.out
      have HV := Lib.hid hv
      have d1 : decide ((10 : Int) ≤ (m : Int)) = false := decide_eq_false (by omega)
      have b1 : (m : Int) ≤ 9 := by omega
      have z1 := digB_size m
      have n1 : ¬ 9223372036854775807 < 1 + t.size := by omega
      clear HK hv
      go_wp2
      go_ret
      exact ⟨ret_str HV.out, by (repeat (first | exact .refl _ _ | assumption | refine .drew ?_ | refine balloc ?_ _ | refine bdrewN ?_ _ | refine .setCell ?_ (by simp <;> omega) _ | refine bstep ?_ (by assumption)))⟩
    · have hcv := fun c => conv1 wr (m % 10) c (by omega) wr.heap.size rfl (48 + (m : Int) % 10) (by omega)
      have HV := Lib.hid ((decB_step m hlt t).trans HK.out)
      have d1 : decide ((10 : Int) ≤ (m : Int)) = true := decide_eq_true (by omega)
      have b3 : (m : Int) % 10 ≤ 9 := by omega
      have b4 : 0 ≤ (m : Int) % 10 := by omega
      have z1 := digB_size (m % 10)
      have n1 : ¬ 9223372036854775807 < 1 + t.size := by omega
      clear HK
      go_wp2
      exact ⟨⟨m / 10, _, by go_num, rfl, by omega, HV, by (repeat (first | exact .refl _ _ | assumption | refine .drew ?_ | refine balloc ?_ _ | refine bdrewN ?_ _ | refine .setCell ?_ (by simp <;> omega) _ | refine bstep ?_ (by assumption)))⟩, by simp [intOf]; omega⟩
def joinR (l : List ByteArray) : ByteArray := if l = [] then ⟨#[126]⟩ else commaT l
theorem joinR_eq {l : List ByteArray} (h : ∀ x ∈ l, x.size ≠ 0) : joinR l = joinT l := by
  unfold joinR joinT orT
  cases l with
  | nil => rfl
  | cons x r =>
    obtain ⟨b, t, hb, he⟩ := comma_head (r := r) (h x (by simp))
    have hs : ¬ (commaT (x :: r)).size = 0 := by rw [Lib.size_eq, he]; simp
    rw [if_neg (by simp), if_neg hs]
set_option maxHeartbeats 4000000 in
theorem rJoined21_any (A : Option Addr) (n c : Nat) (l : List ByteArray) (w : World) (hR : Reads w 1 A n (l.map .string)) (hn : n ≤ 1000000) (htot : (Lib.join (lists l) [44]).length ≤ 1000000000) (hsz : ∀ x ∈ l, x.size ≤ 1000000000) : Calls Tryz.prog 74 #[.slice A n c] w (Ret w (.string (joinR l))) := by
  have hl : l.length = n := by have := hR.1; simpa using this
  obtain ⟨V, hV⟩ : ∃ V, V = joinR l := ⟨_, rfl⟩
  rw [← hV]
  unfold joinR at hV
  by_cases h0 : n = 0
  · subst h0
    obtain rfl : l = [] := List.eq_nil_of_length_eq_zero hl
    obtain rfl : V = ⟨#[126]⟩ := hV
    go_enter Tryz.func74, Tryz.ntmps74
    go_wp2
    go_ret
    exact ⟨rfl, by (repeat (first | exact .refl _ _ | assumption | refine .drew ?_ | refine balloc ?_ _ | refine bdrewN ?_ _ | refine .setCell ?_ (by simp <;> omega) _ | refine bstep ?_ (by assumption)))⟩
  have hne : l ≠ [] := by intro e; rw [e] at hl; simp at hl; omega
  rw [if_neg hne] at hV
  have hend : V = joinB l n := by rw [hV, ← hl, joinB_all]; rfl
  obtain ⟨x0, hx0⟩ : ∃ x, l[0]? = some x := ⟨_, List.getElem?_eq_getElem (by omega)⟩
  have hz0 : ((n : Int) == 0) = false := by simp; omega
  have hfst := joinB_first l x0 hx0
  have HR := Lib.hid hR
  obtain ⟨b0, o0, rfl, hcell0⟩ := hR.2 (by omega)
  have hc0 : w.cell? ⟨b0, o0, none⟩ = some (.string x0) := hcell0 0 _ (by simp [hx0])
  have hn0 : (0 : Int) < (n : Int) := by omega
  have HL := Lib.hid hl
  have HE := Lib.hid hend
  have HT := Lib.hid htot
  have HS := Lib.hid hsz
  have HF := Lib.hid hfst
  clear hl hend htot hsz hR hV hne hcell0 hx0 hfst
  go_enter Tryz.func74, Tryz.ntmps74
  go_wp2
  go_loopw [3, 4] (fun vs vi wr => ∃ k : Nat, vi = .int .i64 (k + 1 : Nat) ∧ k + 1 ≤ n ∧ vs = .string (joinB l (k + 1)) ∧ Below w.heap.size w wr) (fun _ i _ => n - (intOf i).toNat)
  case atStart => exact ⟨0, rfl, by omega, by rw [HF.out], Below.refl _ _⟩
  case round =>
    clear hc0
    obtain ⟨k, rfl, hk, rfl, hbr⟩ := hrel
    by_cases hlt : k + 1 < n
    · obtain ⟨x, hx⟩ : ∃ x, l[k + 1]? = some x := ⟨_, List.getElem?_eq_getElem (by have := HL.out; omega)⟩
      obtain ⟨b, o, hbo, hcell⟩ := (HR.out.keep hbr).2 (by omega)
      injection hbo with hbo
      injection hbo with e1 e2
      subst e1
      subst e2
      have hc1 : wr.cell? ⟨b0, o0 + (k + 1), none⟩ = some (.string x) := hcell (k + 1) _ (by simp [hx])
      have hz1 : (joinB l (k + 1)).size ≤ 1000000000 := Nat.le_trans (joinB_le l (k + 1)) HT.out
      have hz2 : x.size ≤ 1000000000 := HS.out x (List.mem_of_getElem? hx)
      have hk0 : (0 : Int) ≤ (k : Int) := by omega
      have hk1 : (k : Int) + 1 < (n : Int) := by omega
      have HJ := Lib.hid (joinB_step l (k + 1) x (by omega) hx)
      generalize joinB l (k + 1) = S at *
      clear hcell hx
      have n1 : ¬ 9223372036854775807 < S.size + 1 := by omega
      have n2 : ¬ 9223372036854775807 < S.size + 1 + x.size := by omega
      go_wp2
      exact ⟨⟨k + 1, by go_num, by omega, congrArg Value.string HJ.out, hbr⟩, by simp [intOf]; omega⟩
    · obtain rfl : k + 1 = n := by omega
      have he := HE.out
      rw [← he]
      go_wp2
      go_ret
      exact ⟨rfl, hbr⟩
end Go.Proofs.YtocgkpdolgnbgaaGreatDoor
namespace Go.Proofs.YtocgkpdolgnbgaaGreatDoor
open Go.RowKit Go.Sort
set_option linter.unusedVariables false
set_option linter.unusedSimpArgs false
set_option maxRecDepth 100000
theorem match_all {s : ByteArray} (h : readB s = true) : matchB ⟨#[42, 47, 42, 42]⟩ s = true := by
  unfold matchB
  rw [any_comp]
  show (readB s && matchP anyP (parseB s).1) = true
  rw [h, any_match]; rfl
theorem allowsL_cases {α : Type} [DecidableEq α] (l : List α) (x : α) : (l.length = 0 ∧ allowsL l x = true) ∨ (0 < l.length ∧ hasL l x = true ∧ allowsL l x = true) ∨ (0 < l.length ∧ hasL l x = false ∧ allowsL l x = false) := by
  unfold allowsL
  cases l with
  | nil => exact .inl ⟨rfl, rfl⟩
  | cons a l =>
    have e : (a :: l).contains x = hasL (a :: l) x := rfl
    rw [e]
    cases hasL (a :: l) x
    · exact .inr (.inr ⟨by simp, rfl, rfl⟩)
    · exact .inr (.inl ⟨by simp, rfl, rfl⟩)
set_option maxHeartbeats 16000000 in
theorem rHolds21_any (c : CondV) (m : CondMem) (a : AskV) (w : World) (hR : CondReads w c m) (hc : CondFits c) (ha : AskFits a) :
    Calls Tryz.prog 31 #[CondMem.val c m, AskV.val a] w (Ret w (.bool (holdsC c a))) := by
  have c1 := fun W (hb : Below w.heap.size w W) => rValid21_any c m W (hR.keep hb) hc.p hc.cl hc.co hc.n1 hc.n2 hc.n3
  have c2 := fun W => rValidAsk_any a W ha.p ha.cl ha.co
  obtain ⟨V, hV⟩ : ∃ V, V = holdsC c a := ⟨_, rfl⟩
  rw [← hV]
  unfold holdsC at hV
  have hrd : validAsk a = true → readB a.addr = true := fun h => (ask_times h).2.2.2.2.2.2
  generalize validC c = v1 at *
  generalize validAsk a = v2 at *
  obtain ⟨fr, till, pat, cl, co, si, us⟩ := c
  obtain ⟨A, ca, B, cb, S, cs⟩ := m
  obtain ⟨ad, kl, ko, st, lo, hi⟩ := a
  obtain ⟨hA, hB, hS⟩ := hR
  obtain ⟨h1, h2, h3, n1, n2, n3⟩ := hc
  obtain ⟨g1, g2, g3⟩ := ha
  unfold CondMem.val at c1
  unfold AskV.val at c2
  unfold CondMem.val AskV.val
  dsimp only at hA hB hS h1 h2 h3 n1 n2 n3 g1 g2 g3 hV c1 c2 hrd
  dsimp only
  have c4 := fun W => rMatch_any pat ad W h1 g1
  have c5 := fun W (hb : Below w.heap.size w W) => rHas21_any A cl.length ca cl kl W (hA.keep hb) (by omega)
  have c6 := fun W (hb : Below w.heap.size w W) => rHas21_any B co.length cb co ko W (hB.keep hb) (by omega)
  have c7 := fun W (hb : Below w.heap.size w W) => rSite_any S si.length cs si st W (hS.keep hb) (by omega)
  have k5 := allowsL_cases cl kl
  have k6 := allowsL_cases co ko
  have k7 := allowsL_cases si st
  have kp : (pat.toList = [] ∧ (pat.toList != []) = false ∧ patT pat = ⟨#[42, 47, 42, 42]⟩) ∨ (¬ pat.toList = [] ∧ (pat.toList != []) = true ∧ patT pat = pat) := by
    unfold patT
    by_cases h : pat.size = 0
    · have e : pat.toList = [] := by rw [Lib.toList_data]; exact List.eq_nil_of_length_eq_zero (by rw [← Lib.size_eq]; exact h)
      exact .inl ⟨e, by rw [e]; rfl, by rw [if_pos h]⟩
    · have e : ¬ pat.toList = [] := fun e => h (by rw [Lib.toList_data] at e; rw [Lib.size_eq, e]; rfl)
      exact .inr ⟨e, by simpa using e, by rw [if_neg h]⟩
  generalize hasL cl kl = u5 at *
  generalize hasL co ko = u6 at *
  generalize hasL si st = u7 at *
  generalize allowsL cl kl = v5 at *
  generalize allowsL co ko = v6 at *
  generalize allowsL si st = v7 at *
  obtain ⟨na, hna⟩ : ∃ na, na = cl.length := ⟨_, rfl⟩
  obtain ⟨nb, hnb⟩ : ∃ nb, nb = co.length := ⟨_, rfl⟩
  obtain ⟨ns, hns⟩ : ∃ ns, ns = si.length := ⟨_, rfl⟩
  rw [← hna] at c1 c5 k5 ⊢
  rw [← hnb] at c1 c6 k6 ⊢
  rw [← hns] at c1 c7 k7 ⊢
  have C1 := Lib.hid c1; have C2 := Lib.hid c2; have C4 := Lib.hid c4; have C5 := Lib.hid c5; have C6 := Lib.hid c6; have C7 := Lib.hid c7
  have HV := Lib.hid hV; have HRD := Lib.hid hrd; have K5 := Lib.hid k5; have K6 := Lib.hid k6; have K7 := Lib.hid k7; have KP := Lib.hid kp
  have HMA : Hid (readB ad = true → matchB ⟨#[42, 47, 42, 42]⟩ ad = true) := Lib.hid match_all
  clear c1 c2 c4 c5 c6 c7 hA hB hS h1 h2 h3 n1 n2 n3 g1 g2 g3 hna hnb hns hV hrd k5 k6 k7 kp
  obtain ⟨tt, htt⟩ : ∃ tt, tt = decide (fr ≤ lo ∧ hi < till) := ⟨_, rfl⟩
  have HTT := Lib.hid htt
  clear htt
  go_enter Tryz.func31, Tryz.ntmps31
  go_upto_region 1 with fail
  obtain ⟨W0, hW0⟩ : ∃ W0, W0 = (w.alloc (.cells #[.int .i64 fr, .int .i64 till, .string pat, .slice A na ca, .slice B nb cb, .slice S ns cs, .int .i64 us] 25)).alloc (.cells #[.string ad, .string kl, .string ko, .int .i64 st, .int .i64 lo, .int .i64 hi] 34) := ⟨_, rfl⟩
  have hbw : Below w.heap.size w W0 := by rw [hW0]; exact balloc (balloc (Below.refl _ _) _) _
  have hX : CBox W0 w.heap.size fr till pat A na ca B nb cb S ns cs us := by rw [hW0]; exact (two_box _ _ _).1
  have hY : ABox W0 (w.heap.size + 1) ad kl ko st lo hi := by rw [hW0]; exact (two_box _ _ _).2
  rw [← hW0]
  clear hW0
  (obtain ⟨x0, x1, x2, x3, x4, x5, x6⟩ := CBox.facts hX; obtain ⟨y0, y1, y2, y3, y4, y5⟩ := ABox.facts hY)
  go_cut [28] (fun v wx => v = .bool (!(v1 && v2 && tt)) ∧ CBox wx w.heap.size fr till pat A na ca B nb cb S ns cs us ∧ ABox wx (w.heap.size + 1) ad kl ko st lo hi ∧ Below w.heap.size w wx)
  case first =>
    cases v1
    · clear C2 HV HRD
      go_wp2_with (go_at_call 27; refine (C1.out _ (by (repeat (first | exact .refl _ _ | assumption | refine .drew ?_ | refine balloc ?_ _ | refine bdrewN ?_ _ | refine .setCell ?_ (by simp <;> omega) _ | refine bstep ?_ (by assumption))))).mono ?_; rintro e w2 ⟨rfl, hb2⟩; (replace hX := Blk.keep hX hb2; replace hY := Blk.keep hY hb2; replace hbw := bstep hbw hb2; clear x0 x1 x2 x3 x4 x5 x6 y0 y1 y2 y3 y4 y5; (obtain ⟨x0, x1, x2, x3, x4, x5, x6⟩ := CBox.facts hX; obtain ⟨y0, y1, y2, y3, y4, y5⟩ := ABox.facts hY)))
      all_goals (go_meet; exact ⟨rfl, hX, hY, hbw⟩)
    cases v2
    · clear HV HRD
      go_wp2_with (first | (go_at_call 27; refine (C1.out _ (by (repeat (first | exact .refl _ _ | assumption | refine .drew ?_ | refine balloc ?_ _ | refine bdrewN ?_ _ | refine .setCell ?_ (by simp <;> omega) _ | refine bstep ?_ (by assumption))))).mono ?_; rintro e w2 ⟨rfl, hb2⟩; (replace hX := Blk.keep hX hb2; replace hY := Blk.keep hY hb2; replace hbw := bstep hbw hb2; clear x0 x1 x2 x3 x4 x5 x6 y0 y1 y2 y3 y4 y5; (obtain ⟨x0, x1, x2, x3, x4, x5, x6⟩ := CBox.facts hX; obtain ⟨y0, y1, y2, y3, y4, y5⟩ := ABox.facts hY))) | (go_at_call 29; refine (C2.out _).mono ?_; rintro e w2 ⟨rfl, hb2⟩; (replace hX := Blk.keep hX hb2; replace hY := Blk.keep hY hb2; replace hbw := bstep hbw hb2; clear x0 x1 x2 x3 x4 x5 x6 y0 y1 y2 y3 y4 y5; (obtain ⟨x0, x1, x2, x3, x4, x5, x6⟩ := CBox.facts hX; obtain ⟨y0, y1, y2, y3, y4, y5⟩ := ABox.facts hY))))
      all_goals (go_meet; exact ⟨rfl, hX, hY, hbw⟩)
    by_cases t1 : fr ≤ lo
    rotate_left
    · have d1 : decide (lo < fr) = true := decide_eq_true (by omega)
      obtain rfl : tt = false := by rw [HTT.out]; exact decide_eq_false (fun h => t1 h.1)
      clear HV HRD HTT
      go_wp2_with (first | (go_at_call 27; refine (C1.out _ (by (repeat (first | exact .refl _ _ | assumption | refine .drew ?_ | refine balloc ?_ _ | refine bdrewN ?_ _ | refine .setCell ?_ (by simp <;> omega) _ | refine bstep ?_ (by assumption))))).mono ?_; rintro e w2 ⟨rfl, hb2⟩; (replace hX := Blk.keep hX hb2; replace hY := Blk.keep hY hb2; replace hbw := bstep hbw hb2; clear x0 x1 x2 x3 x4 x5 x6 y0 y1 y2 y3 y4 y5; (obtain ⟨x0, x1, x2, x3, x4, x5, x6⟩ := CBox.facts hX; obtain ⟨y0, y1, y2, y3, y4, y5⟩ := ABox.facts hY))) | (go_at_call 29; refine (C2.out _).mono ?_; rintro e w2 ⟨rfl, hb2⟩; (replace hX := Blk.keep hX hb2; replace hY := Blk.keep hY hb2; replace hbw := bstep hbw hb2; clear x0 x1 x2 x3 x4 x5 x6 y0 y1 y2 y3 y4 y5; (obtain ⟨x0, x1, x2, x3, x4, x5, x6⟩ := CBox.facts hX; obtain ⟨y0, y1, y2, y3, y4, y5⟩ := ABox.facts hY))))
      all_goals (go_meet; exact ⟨rfl, hX, hY, hbw⟩)
    have d1 : decide (lo < fr) = false := decide_eq_false (by omega)
    by_cases t2 : hi < till
    rotate_left
    · have d2 : decide (till ≤ hi) = true := decide_eq_true (by omega)
      obtain rfl : tt = false := by rw [HTT.out]; exact decide_eq_false (fun h => t2 h.2)
      clear HV HRD HTT
      go_wp2_with (first | (go_at_call 27; refine (C1.out _ (by (repeat (first | exact .refl _ _ | assumption | refine .drew ?_ | refine balloc ?_ _ | refine bdrewN ?_ _ | refine .setCell ?_ (by simp <;> omega) _ | refine bstep ?_ (by assumption))))).mono ?_; rintro e w2 ⟨rfl, hb2⟩; (replace hX := Blk.keep hX hb2; replace hY := Blk.keep hY hb2; replace hbw := bstep hbw hb2; clear x0 x1 x2 x3 x4 x5 x6 y0 y1 y2 y3 y4 y5; (obtain ⟨x0, x1, x2, x3, x4, x5, x6⟩ := CBox.facts hX; obtain ⟨y0, y1, y2, y3, y4, y5⟩ := ABox.facts hY))) | (go_at_call 29; refine (C2.out _).mono ?_; rintro e w2 ⟨rfl, hb2⟩; (replace hX := Blk.keep hX hb2; replace hY := Blk.keep hY hb2; replace hbw := bstep hbw hb2; clear x0 x1 x2 x3 x4 x5 x6 y0 y1 y2 y3 y4 y5; (obtain ⟨x0, x1, x2, x3, x4, x5, x6⟩ := CBox.facts hX; obtain ⟨y0, y1, y2, y3, y4, y5⟩ := ABox.facts hY))))
      all_goals (go_meet; exact ⟨rfl, hX, hY, hbw⟩)
    have d2 : decide (till ≤ hi) = false := decide_eq_false (by omega)
    obtain rfl : tt = true := by rw [HTT.out]; exact decide_eq_true ⟨t1, t2⟩
    clear HV HRD HTT
    go_wp2_with (first | (go_at_call 27; refine (C1.out _ (by (repeat (first | exact .refl _ _ | assumption | refine .drew ?_ | refine balloc ?_ _ | refine bdrewN ?_ _ | refine .setCell ?_ (by simp <;> omega) _ | refine bstep ?_ (by assumption))))).mono ?_; rintro e w2 ⟨rfl, hb2⟩; (replace hX := Blk.keep hX hb2; replace hY := Blk.keep hY hb2; replace hbw := bstep hbw hb2; clear x0 x1 x2 x3 x4 x5 x6 y0 y1 y2 y3 y4 y5; (obtain ⟨x0, x1, x2, x3, x4, x5, x6⟩ := CBox.facts hX; obtain ⟨y0, y1, y2, y3, y4, y5⟩ := ABox.facts hY))) | (go_at_call 29; refine (C2.out _).mono ?_; rintro e w2 ⟨rfl, hb2⟩; (replace hX := Blk.keep hX hb2; replace hY := Blk.keep hY hb2; replace hbw := bstep hbw hb2; clear x0 x1 x2 x3 x4 x5 x6 y0 y1 y2 y3 y4 y5; (obtain ⟨x0, x1, x2, x3, x4, x5, x6⟩ := CBox.facts hX; obtain ⟨y0, y1, y2, y3, y4, y5⟩ := ABox.facts hY))))
    all_goals (go_meet; exact ⟨rfl, hX, hY, hbw⟩)
  case rest =>
    clear x0 x1 x2 x3 x4 x5 x6 y0 y1 y2 y3 y4 y5
    clear hX hY hbw C1 C2
    obtain ⟨rfl, hX, hY, hbw⟩ := hcut
    (obtain ⟨x0, x1, x2, x3, x4, x5, x6⟩ := CBox.facts hX; obtain ⟨y0, y1, y2, y3, y4, y5⟩ := ABox.facts hY)
    have hv2 : V = (v1 && v2 && tt && matchB (patT pat) ad && v5 && v6 && v7) := by rw [HV.out, HTT.out]
    cases hvv : (v1 && v2 && tt)
    · obtain rfl : V = false := by rw [hv2, hvv]; rfl
      clear HV hv2
      go_wp2
      all_goals (go_ret; exact ⟨rfl, hbw⟩)
    rw [hvv, Bool.true_and] at hv2
    have hv22 : v2 = true := by revert hvv; cases v1 <;> cases v2 <;> simp
    have hrd := HRD.out hv22
    obtain ⟨pk, hpk⟩ : ∃ pk, pk = matchB (patT pat) ad := ⟨_, rfl⟩
    rw [← hpk] at hv2
    have hma := HMA.out hrd
    have HV2 := Lib.hid hv2; have HPK := Lib.hid hpk; have HM2 := Lib.hid hma
    clear HV hv2 hvv hv22 hrd HRD HMA hpk hma HTT
    go_upto_region 3 with fail
    go_cut [39] (fun v wx => v = .bool (!pk) ∧ CBox wx w.heap.size fr till pat A na ca B nb cb S ns cs us ∧ ABox wx (w.heap.size + 1) ad kl ko st lo hi ∧ Below w.heap.size w wx)
    case first =>
      rcases KP.out with ⟨e1, e2, e3⟩ | ⟨e1, e2, e3⟩
      · obtain rfl : pk = true := by rw [HPK.out, e3, HM2.out]
        clear HV2 HPK HM2 KP
        go_wp2
        all_goals (go_meet; exact ⟨rfl, hX, hY, hbw⟩)
      · have hp2 := HPK.out
        rw [e3] at hp2
        rw [← hp2] at C4
        clear HV2 HPK HM2 KP hp2
        go_wp2_with (go_at_call 84; refine (C4.out _).mono ?_; rintro e w2 ⟨rfl, hb2⟩; (replace hX := Blk.keep hX hb2; replace hY := Blk.keep hY hb2; replace hbw := bstep hbw hb2; clear x0 x1 x2 x3 x4 x5 x6 y0 y1 y2 y3 y4 y5; (obtain ⟨x0, x1, x2, x3, x4, x5, x6⟩ := CBox.facts hX; obtain ⟨y0, y1, y2, y3, y4, y5⟩ := ABox.facts hY)))
        all_goals (go_meet; exact ⟨by first | rfl | simp [e1], hX, hY, hbw⟩)
    case rest =>
      clear x0 x1 x2 x3 x4 x5 x6 y0 y1 y2 y3 y4 y5
      clear hX hY hbw C4 KP HPK HM2
      obtain ⟨rfl, hX, hY, hbw⟩ := hcut
      (obtain ⟨x0, x1, x2, x3, x4, x5, x6⟩ := CBox.facts hX; obtain ⟨y0, y1, y2, y3, y4, y5⟩ := ABox.facts hY)
      cases pk
      · obtain rfl : V = false := by rw [HV2.out]; rfl
        clear HV2
        go_wp2
        all_goals (go_ret; exact ⟨rfl, hbw⟩)
      go_upto_region 5 with fail
      go_cut [65] (fun v wx => v = .bool (!(v5 && v6)) ∧ CBox wx w.heap.size fr till pat A na ca B nb cb S ns cs us ∧ ABox wx (w.heap.size + 1) ad kl ko st lo hi ∧ Below w.heap.size w wx)
      case first =>
        clear HV2 C7 K7
        rcases K5.out with ⟨e5, rfl⟩ | ⟨e5, rfl, rfl⟩ | ⟨e5, rfl, rfl⟩
        rotate_right
        · have f5 : decide ((0 : Int) < (na : Int)) = true := decide_eq_true (by omega); have f5a : decide (0 < na) = true := decide_eq_true (by omega); have f5b : 0 < na := by omega
          clear K5 K6 e5
          go_wp2_with (go_at_call 85; (first | (with_reducible refine (C5.out _ hbw).mono ?_) | (with_reducible refine (C6.out _ hbw).mono ?_)); rintro e w2 ⟨rfl, hb2⟩; (replace hX := Blk.keep hX hb2; replace hY := Blk.keep hY hb2; replace hbw := bstep hbw hb2; clear x0 x1 x2 x3 x4 x5 x6 y0 y1 y2 y3 y4 y5; (obtain ⟨x0, x1, x2, x3, x4, x5, x6⟩ := CBox.facts hX; obtain ⟨y0, y1, y2, y3, y4, y5⟩ := ABox.facts hY)))
          all_goals (go_meet; exact ⟨rfl, hX, hY, hbw⟩)
        · have f5 : decide ((0 : Int) < (na : Int)) = false := decide_eq_false (by omega); have f5a : decide (0 < na) = false := decide_eq_false (by omega)
          clear K5 e5
          rcases K6.out with ⟨e6, rfl⟩ | ⟨e6, rfl, rfl⟩ | ⟨e6, rfl, rfl⟩
          · have f6 : decide ((0 : Int) < (nb : Int)) = false := decide_eq_false (by omega); have f6a : decide (0 < nb) = false := decide_eq_false (by omega)
            clear K6 e6
            go_wp2_with (go_at_call 85; (first | (with_reducible refine (C5.out _ hbw).mono ?_) | (with_reducible refine (C6.out _ hbw).mono ?_)); rintro e w2 ⟨rfl, hb2⟩; (replace hX := Blk.keep hX hb2; replace hY := Blk.keep hY hb2; replace hbw := bstep hbw hb2; clear x0 x1 x2 x3 x4 x5 x6 y0 y1 y2 y3 y4 y5; (obtain ⟨x0, x1, x2, x3, x4, x5, x6⟩ := CBox.facts hX; obtain ⟨y0, y1, y2, y3, y4, y5⟩ := ABox.facts hY)))
            all_goals (go_meet; exact ⟨rfl, hX, hY, hbw⟩)
          all_goals
            have f6 : decide ((0 : Int) < (nb : Int)) = true := decide_eq_true (by omega); have f6a : decide (0 < nb) = true := decide_eq_true (by omega); have f6b : 0 < nb := by omega
            clear K6 e6
            go_wp2_with (go_at_call 85; (first | (with_reducible refine (C5.out _ hbw).mono ?_) | (with_reducible refine (C6.out _ hbw).mono ?_)); rintro e w2 ⟨rfl, hb2⟩; (replace hX := Blk.keep hX hb2; replace hY := Blk.keep hY hb2; replace hbw := bstep hbw hb2; clear x0 x1 x2 x3 x4 x5 x6 y0 y1 y2 y3 y4 y5; (obtain ⟨x0, x1, x2, x3, x4, x5, x6⟩ := CBox.facts hX; obtain ⟨y0, y1, y2, y3, y4, y5⟩ := ABox.facts hY)))
            all_goals (go_meet; exact ⟨rfl, hX, hY, hbw⟩)
        · have f5 : decide ((0 : Int) < (na : Int)) = true := decide_eq_true (by omega); have f5a : decide (0 < na) = true := decide_eq_true (by omega); have f5b : 0 < na := by omega
          clear K5 e5
          rcases K6.out with ⟨e6, rfl⟩ | ⟨e6, rfl, rfl⟩ | ⟨e6, rfl, rfl⟩
          · have f6 : decide ((0 : Int) < (nb : Int)) = false := decide_eq_false (by omega); have f6a : decide (0 < nb) = false := decide_eq_false (by omega)
            clear K6 e6
            go_wp2_with (go_at_call 85; (first | (with_reducible refine (C5.out _ hbw).mono ?_) | (with_reducible refine (C6.out _ hbw).mono ?_)); rintro e w2 ⟨rfl, hb2⟩; (replace hX := Blk.keep hX hb2; replace hY := Blk.keep hY hb2; replace hbw := bstep hbw hb2; clear x0 x1 x2 x3 x4 x5 x6 y0 y1 y2 y3 y4 y5; (obtain ⟨x0, x1, x2, x3, x4, x5, x6⟩ := CBox.facts hX; obtain ⟨y0, y1, y2, y3, y4, y5⟩ := ABox.facts hY)))
            all_goals (go_meet; exact ⟨rfl, hX, hY, hbw⟩)
          all_goals
            have f6 : decide ((0 : Int) < (nb : Int)) = true := decide_eq_true (by omega); have f6a : decide (0 < nb) = true := decide_eq_true (by omega); have f6b : 0 < nb := by omega
            clear K6 e6
            go_wp2_with (go_at_call 85; (first | (with_reducible refine (C5.out _ hbw).mono ?_) | (with_reducible refine (C6.out _ hbw).mono ?_)); rintro e w2 ⟨rfl, hb2⟩; (replace hX := Blk.keep hX hb2; replace hY := Blk.keep hY hb2; replace hbw := bstep hbw hb2; clear x0 x1 x2 x3 x4 x5 x6 y0 y1 y2 y3 y4 y5; (obtain ⟨x0, x1, x2, x3, x4, x5, x6⟩ := CBox.facts hX; obtain ⟨y0, y1, y2, y3, y4, y5⟩ := ABox.facts hY)))
            all_goals (go_meet; exact ⟨rfl, hX, hY, hbw⟩)
      case rest =>
        clear x0 x1 x2 x3 x4 x5 x6 y0 y1 y2 y3 y4 y5
        clear hX hY hbw C5 C6 K5 K6
        obtain ⟨rfl, hX, hY, hbw⟩ := hcut
        (obtain ⟨x0, x1, x2, x3, x4, x5, x6⟩ := CBox.facts hX; obtain ⟨y0, y1, y2, y3, y4, y5⟩ := ABox.facts hY)
        have hv3 : V = (v5 && v6 && v7) := by rw [HV2.out, Bool.true_and]
        cases hvv : (v5 && v6)
        · obtain rfl : V = false := by rw [hv3, hvv]; rfl
          clear HV2 hv3
          go_wp2
          all_goals (go_ret; exact ⟨rfl, hbw⟩)
        rw [hvv, Bool.true_and] at hv3
        subst hv3
        clear HV2 hvv
        rcases K7.out with ⟨e7, rfl⟩ | ⟨e7, rfl, rfl⟩ | ⟨e7, rfl, rfl⟩
        · have f7 : ((ns : Int) == 0) = true := by simp; omega
          clear K7 e7
          go_wp2_with (go_at_call 86; refine (C7.out _ hbw).mono ?_; rintro e w2 ⟨rfl, hb2⟩; (replace hX := Blk.keep hX hb2; replace hY := Blk.keep hY hb2; replace hbw := bstep hbw hb2; clear x0 x1 x2 x3 x4 x5 x6 y0 y1 y2 y3 y4 y5; (obtain ⟨x0, x1, x2, x3, x4, x5, x6⟩ := CBox.facts hX; obtain ⟨y0, y1, y2, y3, y4, y5⟩ := ABox.facts hY)))
          all_goals (go_ret; exact ⟨rfl, hbw⟩)
        all_goals
          have f7 : ((ns : Int) == 0) = false := by simp; omega
          clear K7 e7
          go_wp2_with (go_at_call 86; refine (C7.out _ hbw).mono ?_; rintro e w2 ⟨rfl, hb2⟩; (replace hX := Blk.keep hX hb2; replace hY := Blk.keep hY hb2; replace hbw := bstep hbw hb2; clear x0 x1 x2 x3 x4 x5 x6 y0 y1 y2 y3 y4 y5; (obtain ⟨x0, x1, x2, x3, x4, x5, x6⟩ := CBox.facts hX; obtain ⟨y0, y1, y2, y3, y4, y5⟩ := ABox.facts hY)))
          all_goals (go_ret; exact ⟨rfl, hbw⟩)
end Go.Proofs.YtocgkpdolgnbgaaGreatDoor
namespace Go.Proofs.YtocgkpdolgnbgaaGreatDoor
open Go.RowKit Go.Sort
set_option linter.unusedVariables false
set_option linter.unusedSimpArgs false
set_option maxRecDepth 100000
def knownV (b : Bool) (e : Int) : Value := .agg #[.bool b, .int .i64 e]
def K21 (w : World) (g : Nat) (b : Bool) (e : Int) : Prop := Blk w g 43 #[.bool b, .int .i64 e] (0, 0)
theorem K21.facts {w : World} {g : Nat} {b : Bool} {e : Int} (h : K21 w g b e) : w.cell? ⟨g, 0, none⟩ = some (.bool b) ∧ w.cell? ⟨g, 1, none⟩ = some (.int .i64 e) ∧ w.frozen? ⟨g, 0, none⟩ = false ∧ w.frozen? ⟨g, 1, none⟩ = false ∧ g < w.heap.size :=
  ⟨Blk.cell h 0, Blk.cell h 1, blk_free0 h 0, blk_free0 h 1, Blk.lt h⟩
set_option maxHeartbeats 4000000 in
theorem rEmpty_any (c : CondV) (m : CondMem) (w : World) (hR : CondReads w c m) (hc : CondFits c) :
    Calls Tryz.prog 25 #[CondMem.val c m] w (Ret w (knownV (validC c && decide (c.till ≤ c.fr)) (if validC c then 0 else 1))) := by
  have c1 := fun W (hb : Below w.heap.size w W) => rValid21_any c m W (hR.keep hb) hc.p hc.cl hc.co hc.n1 hc.n2 hc.n3
  generalize validC c = vd at *
  clear hR hc
  obtain ⟨fr, till, pat, cl, co, si, us⟩ := c
  obtain ⟨A, ca, B, cb, S, cs⟩ := m
  unfold CondMem.val at c1 ⊢
  dsimp only at c1 ⊢
  generalize cl.length = na at *
  generalize co.length = nb at *
  generalize si.length = ns at *
  have C1 := Lib.hid c1
  clear c1
  cases vd
  · show Calls Tryz.prog 25 _ w (Ret w (.agg #[.bool false, .int .i64 1]))
    go_enter Tryz.func25, Tryz.ntmps25
    go_wp2_with (go_at_call 27; refine (C1.out _ (by (repeat (first | exact .refl _ _ | assumption | refine .drew ?_ | refine balloc ?_ _ | refine bdrewN ?_ _ | refine .setCell ?_ (by simp <;> omega) _ | refine bstep ?_ (by assumption))))).mono ?_; rintro e w2 ⟨rfl, hb2⟩; (have hX2 : CBox w2 w.heap.size fr till pat A na ca B nb cb S ns cs us := Blk.keep (two_box _ _ _).1 hb2; have hK2 : K21 w2 (w.heap.size + 1) false 0 := Blk.keep (two_box _ _ _).2 hb2; obtain ⟨x0, x1, x2, x3, x4, x5, x6⟩ := hX2.facts; obtain ⟨k0, k1, g0, g1, hz2⟩ := hK2.facts))
    exact bodyPost_ret (v := .agg #[.bool false, .int .i64 1]) (by simp [results, Tryz.results25, go_sem, hz2, k0, k1, g0, g1]) rfl ⟨rfl, by (repeat (first | exact .refl _ _ | assumption | refine .drew ?_ | refine balloc ?_ _ | refine bdrewN ?_ _ | refine .setCell ?_ (by simp <;> omega) _ | refine bstep ?_ (by assumption)))⟩
  · obtain ⟨t, ht⟩ : ∃ t, t = decide (till ≤ fr) := ⟨_, rfl⟩
    have hd : (true && decide (till ≤ fr)) = t := by rw [ht]; exact Bool.true_and _
    rw [hd]
    have ht2 := ht.symm
    clear ht hd
    show Calls Tryz.prog 25 _ w (Ret w (.agg #[.bool t, .int .i64 0]))
    go_enter Tryz.func25, Tryz.ntmps25
    go_wp2_with (go_at_call 27; refine (C1.out _ (by (repeat (first | exact .refl _ _ | assumption | refine .drew ?_ | refine balloc ?_ _ | refine bdrewN ?_ _ | refine .setCell ?_ (by simp <;> omega) _ | refine bstep ?_ (by assumption))))).mono ?_; rintro e w2 ⟨rfl, hb2⟩; (have hX2 : CBox w2 w.heap.size fr till pat A na ca B nb cb S ns cs us := Blk.keep (two_box _ _ _).1 hb2; have hK2 : K21 w2 (w.heap.size + 1) false 0 := Blk.keep (two_box _ _ _).2 hb2; obtain ⟨x0, x1, x2, x3, x4, x5, x6⟩ := hX2.facts; obtain ⟨k0, k1, g0, g1, hz2⟩ := hK2.facts))
    exact bodyPost_ret (v := .agg #[.bool t, .int .i64 0]) (by simp [results, Tryz.results25, go_sem, hz2, k0, k1, g0, g1]) rfl ⟨rfl, by (repeat (first | exact .refl _ _ | assumption | refine .drew ?_ | refine balloc ?_ _ | refine bdrewN ?_ _ | refine .setCell ?_ (by simp <;> omega) _ | refine bstep ?_ (by assumption)))⟩
end Go.Proofs.YtocgkpdolgnbgaaGreatDoor
namespace Go.Proofs.YtocgkpdolgnbgaaGreatDoor
open Go.RowKit Go.Sort
set_option linter.unusedVariables false
set_option linter.unusedSimpArgs false
set_option maxRecDepth 100000
def WBox (w : World) (g : Nat) (s : ByteArray) (e : Int) : Prop := Blk w g 56 #[.string s, .int .i64 e] (0, 0)
theorem WBox.facts {w : World} {g : Nat} {s : ByteArray} {e : Int} (h : WBox w g s e) : w.cell? ⟨g, 0, none⟩ = some (.string s) ∧ w.cell? ⟨g, 1, none⟩ = some (.int .i64 e) ∧ w.frozen? ⟨g, 0, none⟩ = false ∧ w.frozen? ⟨g, 1, none⟩ = false ∧ g < w.heap.size :=
  ⟨Blk.cell h 0, Blk.cell h 1, blk_free0 h 0, blk_free0 h 1, Blk.lt h⟩
theorem textC_cat (c : CondV) : itoaB c.fr ++ ⟨#[32]⟩ ++ itoaB c.till ++ ⟨#[32]⟩ ++ orT c.pat ⟨#[126]⟩ ++ ⟨#[32]⟩ ++ joinT c.cl ++ ⟨#[32]⟩ ++ joinT c.co ++ ⟨#[32]⟩ ++ joinT (c.si.map itoaB) ++ ⟨#[32]⟩ ++ itoaB c.us = textC c := by
  refine bytes_ext ?_
  unfold textC fieldsC
  simp [Lib.join, Lib.join_cons, Lib.joinTail]
theorem lists_join_le (l : List ByteArray) (B : Nat) (h : ∀ x ∈ l, x.size ≤ B) : (Lib.join (lists l) [44]).length ≤ l.length * (B + 1) := by
  have := join_le 44 B (lists l) (by
    intro y hy
    unfold lists at hy
    obtain ⟨z, hz, rfl⟩ := List.mem_map.1 hy
    have := h z hz; rwa [Lib.size_eq] at this)
  rw [show (lists l).length = l.length by simp [lists]] at this
  exact this
theorem country_size {s : ByteArray} (h : countryB s = true) : s.size = 2 := by
  unfold countryB at h
  simp only [Bool.and_eq_true, decide_eq_true_eq] at h
  exact h.1
set_option maxHeartbeats 8000000 in
theorem rText21_bad (c : CondV) (m : CondMem) (w : World) (hR : CondReads w c m) (hc : CondFits c) (hv : validC c = false) :
    Calls Tryz.prog 26 #[CondMem.val c m] w (Ret w (.agg #[.string ⟨#[]⟩, .int .i64 1])) := by
  have c1 := fun W (hb : Below w.heap.size w W) => hv ▸ rValid21_any c m W (hR.keep hb) hc.p hc.cl hc.co hc.n1 hc.n2 hc.n3
  clear hR hc hv
  obtain ⟨fr, till, pat, cl, co, si, us⟩ := c
  obtain ⟨A, ca, B, cb, S, cs⟩ := m
  unfold CondMem.val at c1 ⊢
  dsimp only at c1 ⊢
  generalize cl.length = na at *
  generalize co.length = nb at *
  generalize si.length = ns at *
  have C1 := Lib.hid c1
  clear c1
  go_enter Tryz.func26, Tryz.ntmps26
  go_wp2_with (go_at_call 27; refine (C1.out _ (by (repeat (first | exact .refl _ _ | assumption | refine .drew ?_ | refine balloc ?_ _ | refine bdrewN ?_ _ | refine .setCell ?_ (by simp <;> omega) _ | refine bstep ?_ (by assumption))))).mono ?_; rintro e w2 ⟨rfl, hb2⟩; have hX2 : CBox w2 w.heap.size fr till pat A na ca B nb cb S ns cs us := Blk.keep (two_box _ _ _).1 hb2; have hK2 : WBox w2 (w.heap.size + 1) ⟨#[]⟩ 0 := Blk.keep (two_box _ _ _).2 hb2; have hbw : Below w.heap.size w w2 := (by (repeat (first | exact .refl _ _ | assumption | refine .drew ?_ | refine balloc ?_ _ | refine bdrewN ?_ _ | refine .setCell ?_ (by simp <;> omega) _ | refine bstep ?_ (by assumption)))); obtain ⟨x0, x1, x2, x3, x4, x5, x6⟩ := hX2.facts; obtain ⟨k0, k1, g0, g1, hz2⟩ := hK2.facts)
  exact bodyPost_ret (v := .agg #[.string ⟨#[]⟩, .int .i64 1]) (by simp [results, Tryz.results26, go_sem, hz2, k0, k1, g0, g1]) rfl ⟨rfl, by (repeat (first | exact .refl _ _ | assumption | refine .drew ?_ | refine balloc ?_ _ | refine bdrewN ?_ _ | refine .setCell ?_ (by simp <;> omega) _ | refine bstep ?_ (by assumption)))⟩
set_option maxHeartbeats 16000000 in
theorem rText21_good (c : CondV) (m : CondMem) (w : World) (hR : CondReads w c m) (hc : CondFits c) (hv : validC c = true) :
    Calls Tryz.prog 26 #[CondMem.val c m] w (Ret w (.agg #[.string (textC c), .int .i64 0])) := by
  have ok := (valid_iff c).1 hv
  have c1 := fun W (hb : Below w.heap.size w W) => hv ▸ rValid21_any c m W (hR.keep hb) hc.p hc.cl hc.co hc.n1 hc.n2 hc.n3
  have hsi : ∀ x ∈ c.si, 0 ≤ x ∧ x < 64 := fun x hx => by have := ok.si x hx; unfold siteB at this; simpa using this
  have hss : ∀ y ∈ c.si.map itoaB, y.size ≤ 21 := fun y hy => by
    obtain ⟨x, hx, rfl⟩ := List.mem_map.1 hy
    have := hsi x hx
    exact itoa_size x (by omega) (by omega)
  have hsz : ∀ y ∈ c.si.map itoaB, y.size ≠ 0 := fun y hy => by
    obtain ⟨x, hx, rfl⟩ := List.mem_map.1 hy
    exact (num_not x (hsi x hx).1).1
  have d1 := fun W => rDecimal_any c.fr.toNat W (by have := ok.fr1; omega)
  have d2 := fun W => rDecimal_any c.till.toNat W (by have := ok.to1; omega)
  have d3 := fun W => rDecimal_any c.us.toNat W (by have := ok.us1; omega)
  rw [Int.toNat_of_nonneg ok.fr0] at d1
  rw [Int.toNat_of_nonneg ok.to0] at d2
  rw [Int.toNat_of_nonneg ok.us0] at d3
  have dx : ∀ x ∈ c.si, ∀ W, Calls Tryz.prog 73 #[.int .i64 x] W (Ret W (.string (itoaB x))) := fun x hx W => by
    have h := hsi x hx
    have := rDecimal_any x.toNat W (by omega)
    rwa [Int.toNat_of_nonneg h.1] at this
  have hnm : ∀ x ∈ c.cl, x.size ≤ 64 := fun x hx => size_of_name (ok.cl x hx)
  have hnc : ∀ x ∈ c.co, x.size ≤ 64 := fun x hx => by have := country_size (ok.co x hx); omega
  have l1 := ok.clLen; have l2 := ok.coLen; have l3 := ok.siLen
  have q1 := lists_join_le c.cl 64 hnm
  have q2 := lists_join_le c.co 64 hnc
  have q3 := lists_join_le (c.si.map itoaB) 21 hss
  rw [List.length_map] at q3
  have j1 := fun W (hb : Below w.heap.size w W) => rJoined21_any m.A c.cl.length m.ca c.cl W (hR.cl.keep hb) (by omega) (by omega) (fun x hx => by have := hnm x hx; omega)
  have j2 := fun W (hb : Below w.heap.size w W) => rJoined21_any m.B c.co.length m.cb c.co W (hR.co.keep hb) (by omega) (by omega) (fun x hx => by have := hnc x hx; omega)
  have j3 := fun (A' : Option Addr) (c' : Nat) W (hr : Reads W 1 A' c.si.length ((c.si.map itoaB).map .string)) => rJoined21_any A' c.si.length c' (c.si.map itoaB) W hr (by omega) (by omega) (fun x hx => by have := hss x hx; omega)
  rw [joinR_eq (fun x hx => (name_not (ok.cl x hx)).1)] at j1
  rw [joinR_eq (fun x hx => (country_not (ok.co x hx)).1)] at j2
  rw [joinR_eq hsz] at j3
  have hs1 := itoa_size c.fr (by have := ok.fr0; omega) (by have := ok.fr1; omega)
  have hs2 := itoa_size c.till (by have := ok.to0; omega) (by have := ok.to1; omega)
  have hs3 := itoa_size c.us (by have := ok.us0; omega) (by have := ok.us1; omega)
  have hs4 := orT_size c.pat
  have hp := hc.p
  have hs5 := joinT_len 64 c.cl hnm
  have hs6 := joinT_len 64 c.co hnc
  have hs7 := joinT_len 21 (c.si.map itoaB) hss
  rw [List.length_map] at hs7
  have hor : (orT c.pat ⟨#[126]⟩ = ⟨#[126]⟩ ∧ (c.pat.toList == []) = true ∧ c.pat.toList = []) ∨ (orT c.pat ⟨#[126]⟩ = c.pat ∧ (c.pat.toList == []) = false ∧ ¬ c.pat.toList = []) := by
    unfold orT
    by_cases h : c.pat.size = 0
    · have e : c.pat.toList = [] := by rw [Lib.toList_data]; exact List.eq_nil_of_length_eq_zero (by rw [← Lib.size_eq]; exact h)
      exact .inl ⟨by rw [if_pos h], by rw [e]; rfl, e⟩
    · have e : ¬ c.pat.toList = [] := fun e => h (by rw [Lib.toList_data] at e; rw [Lib.size_eq, e]; rfl)
      exact .inr ⟨by rw [if_neg h], by simpa using e, e⟩
  have hT := textC_cat c
  generalize textC c = T at *
  have hls : c.si.length = c.si.length := rfl
  obtain ⟨fr, till, pat, cl, co, si, us⟩ := c
  obtain ⟨A, ca, B, cb, S, cs⟩ := m
  have hS := hR.si
  unfold CondMem.val at c1 ⊢
  dsimp only at c1 d1 d2 d3 dx j1 j2 j3 hs1 hs2 hs3 hs4 hs5 hs6 hs7 hor hT hS l1 l2 l3 hp ⊢
  generalize joinT cl = t1 at *
  generalize joinT co = t2 at *
  generalize joinT (si.map itoaB) = t3 at *
  generalize itoaB fr = u1 at *
  generalize itoaB till = u2 at *
  generalize itoaB us = u3 at *
  generalize orT pat ⟨#[126]⟩ = pp at *
  obtain ⟨ns, hns⟩ : ∃ ns, ns = si.length := ⟨_, rfl⟩
  rw [← hns] at c1 j3 hS l3 ⊢
  generalize cl.length = na at *
  generalize co.length = nb at *
  obtain ⟨i0, hi0, hz0, hz1, hz2⟩ := info_parts infoStr
  have HI : Hid ((Tryz.prog.info? 9 = some i0) ∧ i0.zero = some (.string ⟨#[]⟩) ∧ i0.size = 1 ∧ i0.bytes = 16) := Lib.hid ⟨hi0, hz0, hz1, hz2⟩
  have C1 := Lib.hid c1; have D1 := Lib.hid d1; have D2 := Lib.hid d2; have D3 := Lib.hid d3; have DX := Lib.hid dx; have J1 := Lib.hid j1; have J2 := Lib.hid j2; have J3 := Lib.hid j3
  have HS := Lib.hid hS; have HNS := Lib.hid hns; have HT := Lib.hid hT; have HOR := Lib.hid hor
  have HSZ : Hid (u1.size ≤ 21 ∧ u2.size ≤ 21 ∧ u3.size ≤ 21 ∧ pp.size ≤ 200000 ∧ t1.size ≤ 100000 ∧ t2.size ≤ 100000 ∧ t3.size ≤ 100000) := Lib.hid ⟨hs1, hs2, hs3, by omega, by omega, by omega, by omega⟩
  clear c1 d1 d2 d3 dx j1 j2 j3 hS hns hT hor hs1 hs2 hs3 hs4 hs5 hs6 hs7 hsi hss hsz hnm hnc q1 q2 q3 l1 l2 hp hi0 hz0 hz1 hz2 hls ok hv hR hc
  go_enter Tryz.func26, Tryz.ntmps26
  go_wp2_with (go_at_call 27; refine (C1.out _ (by (repeat (first | exact .refl _ _ | assumption | refine .drew ?_ | refine balloc ?_ _ | refine bdrewN ?_ _ | refine .setCell ?_ (by simp <;> omega) _ | refine bstep ?_ (by assumption))))).mono ?_; rintro e w2 ⟨rfl, hb2⟩; have hX2 : CBox w2 w.heap.size fr till pat A na ca B nb cb S ns cs us := Blk.keep (two_box _ _ _).1 hb2; have hK2 : WBox w2 (w.heap.size + 1) ⟨#[]⟩ 0 := Blk.keep (two_box _ _ _).2 hb2; have hbw : Below w.heap.size w w2 := (by (repeat (first | exact .refl _ _ | assumption | refine .drew ?_ | refine balloc ?_ _ | refine bdrewN ?_ _ | refine .setCell ?_ (by simp <;> omega) _ | refine bstep ?_ (by assumption)))); obtain ⟨x0, x1, x2, x3, x4, x5, x6⟩ := hX2.facts; obtain ⟨k0, k1, g0, g1, hz2⟩ := hK2.facts)
  go_loopw [4, 5] (fun vl vi wr => ∃ (k : Nat) (A' : Option Addr) (c' : Nat), (vl = .slice A' k c' ∧ vi = .int .i64 k ∧ k ≤ ns) ∧ CBox wr w.heap.size fr till pat A na ca B nb cb S ns cs us ∧ WBox wr (w.heap.size + 1) ⟨#[]⟩ 0 ∧ wr.ownsRow (w.heap.size + 1 + 1) 9 1 (.slice A' k c') k (((si.map itoaB).take k).map .string) ∧ Below w.heap.size w wr) (fun _ vi _ => ns - (intOf vi).toNat)
  case atStart => exact ⟨0, none, 0, ⟨rfl, rfl, Nat.zero_le _⟩, hX2, hK2, World.ownsRow_nil _ _ _ _, hbw⟩
  case round =>
    clear hX2 hK2 hbw x0 x1 x2 x3 x4 x5 x6 k0 k1 g0 g1 hz2 hb2
    obtain ⟨k, A', c', ⟨rfl, rfl, hk⟩, hX, hK, hown, hbw⟩ := hrel
    obtain ⟨x0, x1, x2, x3, x4, x5, x6⟩ := hX.facts
    by_cases hlt : k < ns
    · obtain ⟨x, hx⟩ : ∃ x, si[k]? = some x := ⟨_, List.getElem?_eq_getElem (by have := HNS.out; omega)⟩
      obtain ⟨pb, po, rfl, hcell⟩ := (HS.out.keep hbw).2 (by omega)
      have hc1 : wr.cell? ⟨pb, po + k, none⟩ = some (.int .i64 x) := hcell k _ (by simp [hx])
      have hk0 : (0 : Int) ≤ (k : Int) := by omega
      have hk1 : (k : Int) < (ns : Int) := by omega
      have htk : (si.map itoaB).take (k + 1) = (si.map itoaB).take k ++ [itoaB x] := by rw [List.take_add_one, List.getElem?_map, hx]; rfl
      have HTK := Lib.hid htk
      have HD := Lib.hid (DX.out x (List.mem_of_getElem? hx))
      clear hcell hx htk
      go_wp2_with (first | (go_at_call 73; refine (HD.out _).mono ?_; rintro e w3 ⟨rfl, hb3⟩; have hown3 := ownsRow_keep hown hb3; have hbw3 := bstep hbw hb3; have hbs3 := hbw3.size; have hX3 := Blk.keep hX hb3; have hK3 := Blk.keep hK hb3; have hz3 := Blk.lt hK3) | (at_builtin; refine wpList_append_own _ rfl _ _ 22 rfl (w.heap.size + 1 + 1) 9 i0 (.string ⟨#[]⟩) 1 16 Tryz.underlying22 HI.out.1 HI.out.2.1 HI.out.2.2.1 HI.out.2.2.2 rfl (by decide) _ _ _ rfl (hown3.alloc _) ⟨w3.heap.size, 0, none⟩ 1 1 [.string (itoaB x)] rfl rfl (cell_one_new _ _ _) (by simp [Value.oneCell']) (by unfold maxLen; omega) (by omega) (by simp; omega) ?_; intro v' w4 hown4 hgrow _; obtain ⟨g1, cap1, rfl⟩ := ownsRow_succ hown4))
      have fr1 : ∀ j, j < w.heap.size + 1 + 1 → w4.heap[j]? = w3.heap[j]? := fun j hj => (hgrow.block j (by simp; omega) (fun e => by have := ownsRow_block hown3 _ e.symm; omega)).trans (Below.heap_alloc w3 _ j (by omega))
      refine ⟨⟨k + 1, some ⟨g1, 0, none⟩, cap1, ⟨rfl, by go_num, by omega⟩, (fr1 _ (by omega)).trans hX3, (fr1 _ (by omega)).trans hK3, by rw [HTK.out, List.map_append]; exact hown4, ?_⟩, by simp [intOf]; omega⟩
      exact (hbw3.alloc hbs3 _).grown hgrow (by simp; omega) (fun r e => by have := ownsRow_block hown3 r e; omega)
    · obtain rfl : k = ns := by omega
      have ht : (si.map itoaB).take k = si.map itoaB := List.take_of_length_le (by simp; have := HNS.out; omega)
      rw [ht] at hown
      have hr3 := Reads.of_own hown
      have j3 := fun W (hb : Below wr.heap.size wr W) => J3.out A' c' W (hr3.keep hb)
      have j1 := fun W (hb : Below wr.heap.size wr W) => J1.out W (bstep hbw hb)
      have j2 := fun W (hb : Below wr.heap.size wr W) => J2.out W (bstep hbw hb)
      obtain ⟨z1, z2, z3, z4, z5, z6, z7⟩ := HSZ.out
      have hTT := HT.out
      have K1 := Lib.hid j1; have K2 := Lib.hid j2; have K3 := Lib.hid j3; have HT2 := Lib.hid hTT
      have hor := HOR.out
      clear ht hown hr3 j1 j2 j3 J1 J2 J3 HT HOR HSZ C1 DX HS HNS hTT
      obtain ⟨k0, k1, g0, g1, hz⟩ := hK.facts
      rcases hor with ⟨e1, e2, e3⟩ | ⟨e1, e2, e3⟩
      · have E1 := Lib.hid e1
        have e4 : pat.toList.isEmpty = true := by rw [e3]; rfl
        clear e1
        go_upto_region 12 with fail
        rw [← E1.out]
        have n1 : ¬ 9223372036854775807 < u1.size + 1 := by omega
        have n2 : ¬ 9223372036854775807 < u1.size + 1 + u2.size := by omega
        have n3 : ¬ 9223372036854775807 < u1.size + 1 + u2.size + 1 := by omega
        have n4 : ¬ 9223372036854775807 < u1.size + 1 + u2.size + 1 + pp.size := by omega
        have n5 : ¬ 9223372036854775807 < u1.size + 1 + u2.size + 1 + pp.size + 1 := by omega
        have n6 : ¬ 9223372036854775807 < u1.size + 1 + u2.size + 1 + pp.size + 1 + t1.size := by omega
        have n7 : ¬ 9223372036854775807 < u1.size + 1 + u2.size + 1 + pp.size + 1 + t1.size + 1 := by omega
        have n8 : ¬ 9223372036854775807 < u1.size + 1 + u2.size + 1 + pp.size + 1 + t1.size + 1 + t2.size := by omega
        have n9 : ¬ 9223372036854775807 < u1.size + 1 + u2.size + 1 + pp.size + 1 + t1.size + 1 + t2.size + 1 := by omega
        have n10 : ¬ 9223372036854775807 < u1.size + 1 + u2.size + 1 + pp.size + 1 + t1.size + 1 + t2.size + 1 + t3.size := by omega
        have n11 : ¬ 9223372036854775807 < u1.size + 1 + u2.size + 1 + pp.size + 1 + t1.size + 1 + t2.size + 1 + t3.size + 1 := by omega
        have n12 : ¬ 9223372036854775807 < u1.size + 1 + u2.size + 1 + pp.size + 1 + t1.size + 1 + t2.size + 1 + t3.size + 1 + u3.size := by omega
        clear z1 z2 z3 z4 z5 z6 z7
        have hcu : Below wr.heap.size wr wr.drew := Below.drew (Below.refl _ _)
        go_region_held3 (fun w' => w'.cell? ⟨w.heap.size, 0, none⟩ = some (.int .i64 fr) ∧ w'.cell? ⟨w.heap.size, 1, none⟩ = some (.int .i64 till) ∧ w'.cell? ⟨w.heap.size, 2, none⟩ = some (.string pat) ∧ w'.cell? ⟨w.heap.size, 3, none⟩ = some (.slice A na ca) ∧ w'.cell? ⟨w.heap.size, 4, none⟩ = some (.slice B nb cb) ∧ w'.cell? ⟨w.heap.size, 5, none⟩ = some (.slice S k cs) ∧ w'.cell? ⟨w.heap.size, 6, none⟩ = some (.int .i64 us) ∧ Below w.heap.size w w')
          (first | exact ⟨x0, x1, x2, x3, x4, x5, x6, Below.drew hbw⟩ | (go_split_ands; refine ⟨?_, ?_, ?_, ?_, ?_, ?_, ?_, ?_⟩ <;> first | assumption | (refine cell_keep hb4 ?_; assumption) | (refine bstep ?_ hb4; assumption) | (refine Eq.trans (World.cell?_setCell_far _ _ _ _ (by simp)) (Eq.trans (World.cell?_setCell_far _ _ _ _ (by simp)) ?_); assumption) | (refine Below.setCell (Below.setCell ?_ (by simp) _) (by simp) _; assumption)))
          (first | (go_at_call 73; (first | (with_reducible refine (D1.out _).mono ?_) | (with_reducible refine (D2.out _).mono ?_) | (with_reducible refine (D3.out _).mono ?_)); rintro e w4 ⟨rfl, hb4⟩; replace hcu := bstep hcu hb4; have hKc := Blk.keep hK hcu; (try clear k0 k1 g0 g1 hz); obtain ⟨k0, k1, g0, g1, hz⟩ := WBox.facts hKc) | (go_at_call 74; (first | (with_reducible refine (K1.out _ hcu).mono ?_) | (with_reducible refine (K2.out _ hcu).mono ?_) | (with_reducible refine (K3.out _ hcu).mono ?_)); rintro e w4 ⟨rfl, hb4⟩; replace hcu := bstep hcu hb4; have hKc := Blk.keep hK hcu; (try clear k0 k1 g0 g1 hz); obtain ⟨k0, k1, g0, g1, hz⟩ := WBox.facts hKc))
        all_goals go_wp2
        all_goals exact bodyPost_ret (v := .agg #[.string T, .int .i64 0]) (by simp [results, Tryz.results26, go_sem, hz, k0, k1, g0, g1, HT2.out]) rfl ⟨rfl, by go_split_ands; assumption⟩
      · have E1 := Lib.hid e1
        have e4 : pat.toList.isEmpty = false := by simpa using e3
        clear e1
        go_upto_region 12 with fail
        rw [← E1.out]
        have n1 : ¬ 9223372036854775807 < u1.size + 1 := by omega
        have n2 : ¬ 9223372036854775807 < u1.size + 1 + u2.size := by omega
        have n3 : ¬ 9223372036854775807 < u1.size + 1 + u2.size + 1 := by omega
        have n4 : ¬ 9223372036854775807 < u1.size + 1 + u2.size + 1 + pp.size := by omega
        have n5 : ¬ 9223372036854775807 < u1.size + 1 + u2.size + 1 + pp.size + 1 := by omega
        have n6 : ¬ 9223372036854775807 < u1.size + 1 + u2.size + 1 + pp.size + 1 + t1.size := by omega
        have n7 : ¬ 9223372036854775807 < u1.size + 1 + u2.size + 1 + pp.size + 1 + t1.size + 1 := by omega
        have n8 : ¬ 9223372036854775807 < u1.size + 1 + u2.size + 1 + pp.size + 1 + t1.size + 1 + t2.size := by omega
        have n9 : ¬ 9223372036854775807 < u1.size + 1 + u2.size + 1 + pp.size + 1 + t1.size + 1 + t2.size + 1 := by omega
        have n10 : ¬ 9223372036854775807 < u1.size + 1 + u2.size + 1 + pp.size + 1 + t1.size + 1 + t2.size + 1 + t3.size := by omega
        have n11 : ¬ 9223372036854775807 < u1.size + 1 + u2.size + 1 + pp.size + 1 + t1.size + 1 + t2.size + 1 + t3.size + 1 := by omega
        have n12 : ¬ 9223372036854775807 < u1.size + 1 + u2.size + 1 + pp.size + 1 + t1.size + 1 + t2.size + 1 + t3.size + 1 + u3.size := by omega
        clear z1 z2 z3 z4 z5 z6 z7
        have hcu : Below wr.heap.size wr wr.drew := Below.drew (Below.refl _ _)
        go_region_held3 (fun w' => w'.cell? ⟨w.heap.size, 0, none⟩ = some (.int .i64 fr) ∧ w'.cell? ⟨w.heap.size, 1, none⟩ = some (.int .i64 till) ∧ w'.cell? ⟨w.heap.size, 2, none⟩ = some (.string pat) ∧ w'.cell? ⟨w.heap.size, 3, none⟩ = some (.slice A na ca) ∧ w'.cell? ⟨w.heap.size, 4, none⟩ = some (.slice B nb cb) ∧ w'.cell? ⟨w.heap.size, 5, none⟩ = some (.slice S k cs) ∧ w'.cell? ⟨w.heap.size, 6, none⟩ = some (.int .i64 us) ∧ Below w.heap.size w w')
          (first | exact ⟨x0, x1, x2, x3, x4, x5, x6, Below.drew hbw⟩ | (go_split_ands; refine ⟨?_, ?_, ?_, ?_, ?_, ?_, ?_, ?_⟩ <;> first | assumption | (refine cell_keep hb4 ?_; assumption) | (refine bstep ?_ hb4; assumption) | (refine Eq.trans (World.cell?_setCell_far _ _ _ _ (by simp)) (Eq.trans (World.cell?_setCell_far _ _ _ _ (by simp)) ?_); assumption) | (refine Below.setCell (Below.setCell ?_ (by simp) _) (by simp) _; assumption)))
          (first | (go_at_call 73; (first | (with_reducible refine (D1.out _).mono ?_) | (with_reducible refine (D2.out _).mono ?_) | (with_reducible refine (D3.out _).mono ?_)); rintro e w4 ⟨rfl, hb4⟩; replace hcu := bstep hcu hb4; have hKc := Blk.keep hK hcu; (try clear k0 k1 g0 g1 hz); obtain ⟨k0, k1, g0, g1, hz⟩ := WBox.facts hKc) | (go_at_call 74; (first | (with_reducible refine (K1.out _ hcu).mono ?_) | (with_reducible refine (K2.out _ hcu).mono ?_) | (with_reducible refine (K3.out _ hcu).mono ?_)); rintro e w4 ⟨rfl, hb4⟩; replace hcu := bstep hcu hb4; have hKc := Blk.keep hK hcu; (try clear k0 k1 g0 g1 hz); obtain ⟨k0, k1, g0, g1, hz⟩ := WBox.facts hKc))
        all_goals go_wp2
        all_goals exact bodyPost_ret (v := .agg #[.string T, .int .i64 0]) (by simp [results, Tryz.results26, go_sem, hz, k0, k1, g0, g1, HT2.out]) rfl ⟨rfl, by go_split_ands; assumption⟩
end Go.Proofs.YtocgkpdolgnbgaaGreatDoor
namespace Go.Proofs.YtocgkpdolgnbgaaGreatDoor
open Go.RowKit Go.Sort
set_option linter.unusedVariables false
set_option linter.unusedSimpArgs false
set_option maxRecDepth 100000
set_option maxHeartbeats 4000000 in
theorem text_bad (c : CondV) (m : CondMem) (w : World) (hR : CondReads w c m) (hc : CondFits c) (hv : validC c = false) (hE : Env w) : Calls Tryz.prog 22 #[CondMem.val c m] w (Ret w (.tuple #[.string ⟨#[]⟩, .int .i64 1])) := by
  have c1 := fun W (hb : Below w.heap.size w W) => hv ▸ condValid_any c m W (hR.keep hb) hc.p hc.cl hc.co hc.n1 hc.n2 hc.n3 (hE.keep hb)
  clear hR hc hv hE
  obtain ⟨fr, till, pat, cl, co, si, us⟩ := c
  obtain ⟨A, ca, B, cb, S, cs⟩ := m
  unfold CondMem.val at c1 ⊢
  dsimp only at c1 ⊢
  generalize cl.length = na at *
  generalize co.length = nb at *
  generalize si.length = ns at *
  have C1 := Lib.hid c1
  clear c1
  go_enter Tryz.func22, Tryz.ntmps22
  go_wp2_with (go_at_call 19; refine (C1.out _ (by (repeat (first | exact .refl _ _ | assumption | refine .drew ?_ | refine balloc ?_ _ | refine bdrewN ?_ _ | refine .setCell ?_ (by simp <;> omega) _ | refine bstep ?_ (by assumption))))).mono ?_; rintro e w2 ⟨rfl, hb2⟩)
  go_ret2
  exact ⟨rfl, by (repeat (first | exact .refl _ _ | assumption | refine .drew ?_ | refine balloc ?_ _ | refine bdrewN ?_ _ | refine .setCell ?_ (by simp <;> omega) _ | refine bstep ?_ (by assumption)))⟩
end Go.Proofs.YtocgkpdolgnbgaaGreatDoor
namespace Go.Proofs.YtocgkpdolgnbgaaGreatDoor
open Go.RowKit Go.Sort
set_option linter.unusedVariables false
set_option linter.unusedSimpArgs false
set_option maxRecDepth 100000
def textE (c : CondV) : ByteArray × Int := if validC c then (textC c, 0) else (⟨#[]⟩, 1)
theorem text_all (c : CondV) (m : CondMem) (w : World) (hR : CondReads w c m) (hc : CondFits c) (hE : Env w) (hT : Tab w) : Calls Tryz.prog 22 #[CondMem.val c m] w (Ret w (.tuple #[.string (textE c).1, .int .i64 (textE c).2])) := by
  unfold textE
  cases hv : validC c
  · exact text_bad c m w hR hc hv hE
  · exact text_valid c m w hR hc hv hE hT
theorem rText_all (c : CondV) (m : CondMem) (w : World) (hR : CondReads w c m) (hc : CondFits c) : Calls Tryz.prog 26 #[CondMem.val c m] w (Ret w (.agg #[.string (textE c).1, .int .i64 (textE c).2])) := by
  unfold textE
  cases hv : validC c
  · exact rText21_bad c m w hR hc hv
  · exact rText21_good c m w hR hc hv
theorem empty_shape (c : CondV) : ∃ s, emptyR c = ((validC c && decide (c.till ≤ c.fr)), s, (if validC c then 0 else 1)) := by
  unfold emptyR
  cases hv : validC c
  · exact ⟨noAsk, rfl⟩
  · by_cases h : c.till ≤ c.fr
    · exact ⟨noAsk, by simp [h]⟩
    · exact ⟨sampleC c, by simp [h]⟩
def KB (w : World) (g : Nat) (b : Bool) (e : Int) : Prop := Blk w g 43 #[.bool b, .int .i64 e] (0, 0)
theorem KB.facts {w : World} {g : Nat} {b : Bool} {e : Int} (h : KB w g b e) : w.cell? ⟨g, 0, none⟩ = some (.bool b) ∧ w.cell? ⟨g, 1, none⟩ = some (.int .i64 e) := ⟨Blk.cell h 0, Blk.cell h 1⟩
theorem KB.keep {w w' : World} {g : Nat} {b : Bool} {e : Int} (h : KB w g b e) (hb : Below w.heap.size w w') : KB w' g b e := Blk.keep h hb
def WB (w : World) (g : Nat) (s : ByteArray) (e : Int) : Prop := Blk w g 56 #[.string s, .int .i64 e] (0, 0)
theorem WB.facts {w : World} {g : Nat} {s : ByteArray} {e : Int} (h : WB w g s e) : w.cell? ⟨g, 0, none⟩ = some (.string s) ∧ w.cell? ⟨g, 1, none⟩ = some (.int .i64 e) := ⟨Blk.cell h 0, Blk.cell h 1⟩
theorem WB.keep {w w' : World} {g : Nat} {s : ByteArray} {e : Int} (h : WB w g s e) (hb : Below w.heap.size w w') : WB w' g s e := Blk.keep h hb
end Go.Proofs.YtocgkpdolgnbgaaGreatDoor
