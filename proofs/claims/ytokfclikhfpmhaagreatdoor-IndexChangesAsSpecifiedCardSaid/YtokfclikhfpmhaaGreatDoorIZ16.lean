/- Numbers and texts as bytes: wire.Int, wire.Bytes. -/
import Derived.Test.YtokfclikhfpmhaaGreatDoorIZ13
import Derived.Test.YtokfclikhfpmhaaGreatDoorIZ14
import Derived.Lib.AppendStr
import Derived.Test.YtokfclikhfpmhaaGreatDoorProg
import Derived.WalkKit
import Derived.WalkSpells
import Derived.WalkLawsBesides
import Derived.Below
import Derived.Deep.QuietTactic
import Derived.BigQuiet
import Derived.Lib.QuietBelow
import Derived.Lib.Strings
import Derived.Lib.Hide
import Derived.Deep.RegionWith
import Derived.Deep.RegionHeld3
import Derived.Lib.IndexBytes
import Derived.Test.YtokfclikhfpmhaaGreatDoorIZ5
namespace Go.Proofs.YtokfclikhfpmhaaGreatDoor
open Go.RowKit Go.Sort
set_option linter.unusedVariables false
set_option linter.unusedSimpArgs false
set_option maxRecDepth 100000
def OwnB (l : List Nat) (w : World) (e : Ending) (w' : World) : Prop := ∃ A c, e = .returned (.slice A l.length c) ∧ w'.ownsRow w.heap.size 5 1 (.slice A l.length c) l.length (b8 l) ∧ Below w.heap.size w w'
theorem infoByte22 : (Tryz.prog.info? 5).map (fun i => (i.zero, i.size, i.bytes)) = some (some (.int .u8 0), 1, 1) := by kernel_rfl
theorem or128 (y : Nat) (hy : y < 256) : y ||| 128 = y % 128 + 128 := by
  have : ∀ y : Fin 256, y.val ||| 128 = y.val % 128 + 128 := by decide
  exact this ⟨y, hy⟩
theorem or128_bits (z : Nat) : bits .or .u8 ((z : Int) % 256) 128 = ((z % 128 + 128 : Nat) : Int) := by
  have h := u8_or_nat (z % 256) 128 (Nat.mod_lt _ (by decide)) (by decide)
  rw [or128 _ (Nat.mod_lt _ (by decide)), Nat.mod_mod_of_dvd z (by decide : 128 ∣ 256)] at h
  have e : ((z % 256 : Nat) : Int) = (z : Int) % 256 := by simp
  rw [e] at h; exact h
theorem zz_bits (n : Nat) (hn : n ≤ 4611686018427387903) : bits .xor .u64 ((n : Int) * 2) 0 = ((2 * n : Nat) : Int) := by
  have h := u64_xor_nat (2 * n) 0 (by omega) (by decide)
  rw [Nat.xor_zero] at h
  have e : ((2 * n : Nat) : Int) = (n : Int) * 2 := by omega
  rw [e] at h ⊢; exact h
set_option maxHeartbeats 4000000 in
theorem wireInt_any (n : Nat) (w : World) (hn : n ≤ 1000000000000) : Calls Tryz.prog 148 #[.int .i64 (n : Int)] w (OwnB (Sha.vint (2 * n)) w) := by
  obtain ⟨i0, hi, hz0, hz1, hz2⟩ := info_parts infoByte22
  have HI := Lib.hid (And.intro hi (And.intro hz0 (And.intro hz1 hz2)))
  clear hi hz0 hz1 hz2
  have hzz := zz_bits n (by omega)
  obtain ⟨V, hV⟩ : ∃ V, V = Sha.vint (2 * n) := ⟨_, rfl⟩
  rw [← hV]
  have HV := Lib.hid hV
  clear hV
  have e63 : (n : Int) / 9223372036854775808 = 0 := by omega
  go_enter Tryz.func148, Tryz.ntmps148
  go_wp2
  go_loopw [3, 4] (fun zv ov wr => ∃ (f z : Nat) (acc : List Nat) (A : Option Addr) (c : Nat), zv = .int .u64 (z : Int) ∧ ov = .slice A acc.length c ∧ z < 128 ^ (f + 1) ∧ f ≤ 7 ∧ acc.length + f = 7 ∧ Hid (V = acc ++ Sha.vintF (f + 3) z) ∧ wr.ownsRow w.heap.size 5 1 (.slice A acc.length c) acc.length (b8 acc) ∧ Below w.heap.size w wr) (fun zv _ _ => (intOf zv).toNat)
  case atStart =>
    refine ⟨7, 2 * n, [], none, 0, by simp, rfl, by simp; omega, by omega, rfl, Lib.hid ?_, World.ownsRow_nil _ _ _ _, Below.refl _ _⟩
    rw [HV.out]; rfl
  case round =>
    obtain ⟨f, z, acc, A, c, rfl, rfl, hz, hf, hfl, HVA, hown, hbr⟩ := hrel
    have hbs := hbr.size
    have hzb : z < 128 ^ 8 := Nat.lt_of_lt_of_le hz (Nat.pow_le_pow_right (by decide) (by omega))
    have hz0 : (0 : Int) ≤ z := by omega
    have hor := or128_bits z
    obtain ⟨k, hk⟩ : ∃ k, k = acc.length := ⟨_, rfl⟩
    have hkk : k ≤ 7 := by omega
    have HKL := Lib.hid hk
    rw [← hk] at hown ⊢
    clear hk
    by_cases h : z < 128
    · have hV1 : V = acc ++ [z] := by
        rw [HVA.out]
        show acc ++ (if z < 128 then [z] else _) = _
        rw [if_pos h]
      have d1 : decide (127 < (z : Int)) = false := by simp; omega
      have hm : (z : Int) % 256 = z := by omega
      have HV1 := Lib.hid hV1
      clear HVA hV1
      go_wp2_with (at_builtin; refine wpList_append_own _ rfl _ _ 128 rfl w.heap.size 5 i0 (.int .u8 0) 1 1 Tryz.underlying128 HI.out.1 HI.out.2.1 HI.out.2.2.1 HI.out.2.2.2 rfl (by decide) _ _ _ rfl (hown.alloc _) ⟨wr.heap.size, 0, none⟩ 1 1 [.int .u8 (z : Int)] rfl rfl (cell_one_new _ _ _) (by simp [Value.oneCell']) (by unfold maxLen; omega) (by omega) (by simp; omega) ?_; intro v' w3 hown1 hgrow1 _; obtain ⟨g1, cap1, rfl⟩ := ownsRow_succ hown1; have hb3 : Below w.heap.size w w3 := (hbr.alloc hbs _).grown hgrow1 (by simp; omega) (fun r e => ownsRow_block hown r e); have hbs3 := hb3.size; clear hown)
      go_ret
      refine ⟨some ⟨g1, 0, none⟩, cap1, ?_, ?_, hb3⟩
      · rw [HV1.out, List.length_append, ← HKL.out]; rfl
      · rw [HV1.out, List.length_append, ← HKL.out, b8_app]; exact hown1
    · have hV1 : V = (acc ++ [z % 128 + 128]) ++ Sha.vintF (f + 2) (z / 128) := by
        rw [HVA.out]
        show acc ++ (if z < 128 then [z] else (z % 128 + 128) :: Sha.vintF (f + 2) (z / 128)) = _
        rw [if_neg h, List.append_assoc]; rfl
      have d1 : decide (127 < (z : Int)) = true := by simp; omega
      have hf0 : 0 < f := by
        rcases Nat.eq_zero_or_pos f with h0 | h0
        · subst h0; simp at hz; omega
        · exact h0
      have hz2 : z / 128 < 128 ^ (f - 1 + 1) := by
        rw [show f - 1 + 1 = f by omega]
        rw [Nat.pow_succ] at hz
        exact Nat.div_lt_of_lt_mul (by rw [Nat.mul_comm]; exact hz)
      have HV1 := Lib.hid hV1
      have HZ2 := Lib.hid hz2
      clear HVA hV1 hz2 hz
      go_wp2_with (at_builtin; refine wpList_append_own _ rfl _ _ 128 rfl w.heap.size 5 i0 (.int .u8 0) 1 1 Tryz.underlying128 HI.out.1 HI.out.2.1 HI.out.2.2.1 HI.out.2.2.2 rfl (by decide) _ _ _ rfl (hown.alloc _) ⟨wr.heap.size, 0, none⟩ 1 1 [.int .u8 ((z % 128 + 128 : Nat) : Int)] rfl rfl (cell_one_new _ _ _) (by simp [Value.oneCell']) (by unfold maxLen; omega) (by omega) (by simp; omega) ?_; intro v' w3 hown1 hgrow1 _; obtain ⟨g1, cap1, rfl⟩ := ownsRow_succ hown1; have hb3 : Below w.heap.size w w3 := (hbr.alloc hbs _).grown hgrow1 (by simp; omega) (fun r e => ownsRow_block hown r e); have hbs3 := hb3.size; clear hown)
      have hal : (acc ++ [z % 128 + 128]).length = k + 1 := by rw [List.length_append, ← HKL.out]; rfl
      refine ⟨⟨f - 1, z / 128, acc ++ [z % 128 + 128], some ⟨g1, 0, none⟩, cap1, by simp, by rw [hal], HZ2.out, by omega, by rw [hal]; have := HKL.out; omega, Lib.hid ?_, ?_, hb3⟩, ?_⟩
      · rw [HV1.out, show f - 1 + 3 = f + 2 by omega]
      · rw [hal, b8_app]; exact hown1
      · simp [intOf]; omega
theorem own_slice {w : World} {base n : Nat} {e : TypeId} {v : Value} {xs : List Value} (h : w.ownsRow base e 1 v n xs) : ∃ A c, v = .slice A n c := by
  rcases h.2 with ⟨rfl, hx⟩ | ⟨g, cap, cur, rfl, _⟩
  · have := h.1
    rw [hx] at this
    have hn : n = 0 := by simp at this; omega
    subst hn
    exact ⟨none, 0, rfl⟩
  · exact ⟨_, _, rfl⟩
theorem strCells_nb (s : ByteArray) : Lib.strCells s = b8 (nb s) := txt_nb s
set_option maxHeartbeats 4000000 in
theorem wireBytes_any (s : ByteArray) (w : World) (hs : s.size ≤ 1000000000000) : Calls Tryz.prog 127 #[.string s] w (OwnB (Sha.wireB (nb s)) w) := by
  obtain ⟨i0, hi, hz0, hz1, hz2⟩ := info_parts infoByte22
  have HI := Lib.hid (And.intro hi (And.intro hz0 (And.intro hz1 hz2)))
  clear hi hz0 hz1 hz2
  have hin := wireInt_any s.size w hs
  obtain ⟨V, hV⟩ : ∃ V, V = Sha.vint (2 * s.size) := ⟨_, rfl⟩
  have hW : Sha.wireB (nb s) = V ++ nb s := by unfold Sha.wireB; rw [nb_len, hV]
  rw [← hV] at hin
  rw [hW]
  have hVl : V.length ≤ 11 := by rw [hV]; exact Sha.vint_len _
  obtain ⟨k, hk⟩ : ∃ k, k = V.length := ⟨_, rfl⟩
  have hkk : k ≤ 11 := by omega
  have HKL := Lib.hid hk
  unfold OwnB at hin
  rw [← hk] at hin
  have HIN := Lib.hid hin
  clear hin hV hW hVl hk
  go_enter Tryz.func127, Tryz.ntmps127
  go_wp2_with (first | (go_at_call 148; refine HIN.out.mono ?_; rintro e w2 ⟨A, c, rfl, hown, hb2⟩) | (at_builtin; refine Lib.wpList_append_own_string _ rfl _ _ 128 9 rfl w.heap.size 5 i0 Tryz.underlying128 Tryz.underlying9 HI.out.1 HI.out.2.1 HI.out.2.2.1 HI.out.2.2.2 _ _ _ rfl hown s rfl (by unfold maxLen; omega) (by omega) (by have := hb2.size; omega) ?_; intro v' w3 hown1 hgrow1 _))
  obtain ⟨A', c', rfl⟩ := own_slice hown1
  go_ret
  have hl : (V ++ nb s).length = k + s.size := by rw [List.length_append, nb_len, ← HKL.out]
  refine ⟨A', c', by rw [hl]; rfl, ?_, hb2.grown hgrow1 (by have := hb2.size; omega) (fun r e => ownsRow_block hown r e)⟩
  rw [hl, b8_app, ← strCells_nb]; exact hown1
end Go.Proofs.YtokfclikhfpmhaaGreatDoor
namespace Go.Proofs.YtokfclikhfpmhaaGreatDoor
open Go.RowKit Go.Sort
set_option linter.unusedVariables false
set_option linter.unusedSimpArgs false
set_option maxRecDepth 100000
def toN (l : List Nat) : ByteArray := ⟨(l.map UInt8.ofNat).toArray⟩
theorem nb_toN {l : List Nat} (h : ∀ x ∈ l, x < 256) : nb (toN l) = l := by
  unfold nb toN
  simp only [List.map_map]
  conv => rhs; rw [← List.map_id l]
  apply List.map_congr_left
  intro x hx
  have := h x hx
  simp [Nat.mod_eq_of_lt this]
theorem toN_size (l : List Nat) : (toN l).size = l.length := by simp [toN, ByteArray.size]
theorem run_text (W : World) (A : Option Addr) (n c : Nat) (l : List Nat) (hl : l.length = n) (h : ∀ x ∈ l, x < 256) (hn : 0 < n) (hR : Reads W 1 A n (b8 l)) : (convert 128 9 (.slice A n c)).run Tryz.prog W = .ok (.string (toN l)) W := by
  obtain ⟨b, o, rfl, hc⟩ := hR.2 hn
  have hL : (l.map UInt8.ofNat).length = n := by rw [List.length_map, hl]
  subst hL
  refine run_convert_bytes_back W _ _ 5 ⟨b, o, none⟩ c (l.map UInt8.ofNat) Tryz.underlying128 Tryz.underlying5 Tryz.underlying9 (fun j hj => ?_)
  have hj' : j < l.length := by simpa using hj
  have e : (⟨b, o, none⟩ : Addr).add j = ⟨b, o + j, none⟩ := by unfold Addr.add; split <;> simp_all
  rw [e, hc j _ (b8_at l hj')]
  have hx := h l[j] (List.getElem_mem hj')
  simp [List.getD_eq_getElem?_getD, List.getElem?_eq_getElem hj', Nat.mod_eq_of_lt hx]
theorem reads_own {w : World} {base n c : Nat} {A : Option Addr} {xs : List Value} (h : w.ownsRow base 5 1 (.slice A n c) n xs) : Reads w 1 A n xs := Reads.of_own h
theorem wireB_lt (s : ByteArray) (hs : s.size ≤ 1000000000000) : ∀ x ∈ Sha.wireB (nb s), x < 256 := by
  intro x hx
  unfold Sha.wireB at hx
  rcases List.mem_append.1 hx with hx | hx
  · refine Sha.vintF_lt 10 _ ?_ x hx
    rw [nb_len]
    exact Nat.lt_of_le_of_lt (by omega : 2 * s.size ≤ 2000000000000) (by decide)
  · exact nb_lt s x hx
end Go.Proofs.YtokfclikhfpmhaaGreatDoor
namespace Go.Proofs.YtokfclikhfpmhaaGreatDoor
open Go.RowKit Go.Sort
set_option linter.unusedVariables false
set_option linter.unusedSimpArgs false
set_option maxRecDepth 100000
def RPathPost (r : Option (List ByteArray)) (w : World) (e : Ending) (w' : World) : Prop :=
  Below w.heap.size w w' ∧ match r with
    | none => e = .returned (.tuple #[.slice none 0 0, .bool false])
    | some out => ∃ A c, e = .returned (.tuple #[.slice A out.length c, .bool true]) ∧ Reads w' 1 A out.length (out.map .string) ∧ (∀ a, A = some a → w.heap.size ≤ a.block)
set_option maxHeartbeats 4000000 in
theorem rPath_any (A : Option Addr) (n c : Nat) (l : List ByteArray) (w : World) (hR : Reads w 1 A n (l.map .string)) (hn : n ≤ 1000000) (hsz : ∀ p ∈ l, p.size ≤ 4294967281) : Calls Tryz.prog 76 #[.slice A n c] w (RPathPost (resB [] l) w) := by
  have hl : l.length = n := by have := hR.1; simpa using this
  obtain ⟨i0, hi0, hz0, hz1, hz2⟩ := info_parts infoStr
  have HI : Hid ((Tryz.prog.info? 9 = some i0) ∧ i0.zero = some (.string ⟨#[]⟩) ∧ i0.size = 1 ∧ i0.bytes = 16) := Lib.hid ⟨hi0, hz0, hz1, hz2⟩
  have HL := Lib.hid hl
  have HR := Lib.hid hR
  have HZ := Lib.hid hsz
  generalize hV : RPathPost (resB [] l) w = V
  have HV := Lib.hid hV
  clear hi0 hz0 hz1 hz2 hl hR hsz hV
  go_enter Tryz.func76, Tryz.ntmps76
  go_wp2
  go_loopw [4, 5] (fun va vi wr => ∃ (k m : Nat) (acc : List ByteArray) (A' : Option Addr) (c' : Nat), (vi = .int .i64 k ∧ va = .slice A' m c' ∧ k ≤ n ∧ m ≤ k) ∧ Hid (resB [] l = resB acc (l.drop k) ∧ acc.length = m) ∧ wr.ownsRow w.heap.size 9 1 (.slice A' m c') m (acc.map .string) ∧ Below w.heap.size w wr) (fun _ i _ => n - (intOf i).toNat)
  case atStart => exact ⟨0, 0, [], none, 0, ⟨rfl, rfl, Nat.zero_le _, Nat.le_refl _⟩, Lib.hid ⟨rfl, rfl⟩, World.ownsRow_nil _ _ _ _, Below.refl _ _⟩
  case round =>
    obtain ⟨k, m, acc, A', c', ⟨rfl, rfl, hk, hm⟩, HK, hown, hbr⟩ := hrel
    have hbs := hbr.size
    by_cases hlt : k < n
    · obtain ⟨x, hx⟩ : ∃ x, l[k]? = some x := ⟨_, List.getElem?_eq_getElem (by have := HL.out; omega)⟩
      obtain ⟨b, o, rfl, hcell⟩ := HR.out.2 (by omega)
      have hc0 : w.cell? ⟨b, o + k, none⟩ = some (.string x) := hcell k _ (by simp [hx])
      have hc1 : wr.cell? ⟨b, o + k, none⟩ = some (.string x) := cell_keep hbr hc0
      have hk0 : (0 : Int) ≤ (k : Int) := by omega
      have hk1 : (k : Int) < (n : Int) := by omega
      have hd : l.drop k = x :: l.drop (k + 1) := by
        obtain ⟨hl2, rfl⟩ := List.getElem?_eq_some_iff.1 hx
        exact List.drop_eq_getElem_cons hl2
      have hr1 := HK.out.1
      rw [hd, resB] at hr1
      have hml := HK.out.2
      have hxs : x.size ≤ 4294967281 := HZ.out x (List.mem_of_getElem? hx)
      have cW := fun W => rWord_any x W hxs
      clear hcell hx hd HK
      cases e1 : (x.toList == [46])
      rotate_left
      · have hr2 := hr1
        simp only [resStep, e1, if_true, Option.bind_some] at hr2
        have HK2 := Lib.hid (show resB [] l = resB acc (l.drop (k + 1)) ∧ acc.length = m from ⟨hr2, hml⟩)
        clear hr1 hr2 hml cW
        go_wp2
        exact ⟨⟨k + 1, m, acc, A', c', ⟨by go_num, rfl, by omega, by omega⟩, HK2, hown, hbr⟩, by simp [intOf]; omega⟩
      have e1' : ¬ x.toList = [46] := by simpa using e1
      cases e2 : (x.toList == [46, 46])
      rotate_left
      · by_cases hm0 : m = 0
        · subst hm0
          obtain rfl : acc = [] := List.eq_nil_of_length_eq_zero hml
          have hwf : isWordB x = false := by simp [isWordB, beq_iff_eq.1 e2]
          have hn : resB [] l = none := by rw [hr1]; simp [resStep, e1, e2, hwf]
          have HN := Lib.hid hn
          clear hr1 hml cW hwf hn
          go_wp2
          rw [← HV.out, HN.out]
          exact ⟨belB, rfl⟩
        · obtain ⟨init, last, hacc⟩ : ∃ init last, acc = init ++ [last] := by
            rcases List.eq_nil_or_concat acc with rfl | ⟨init, last, rfl⟩
            · exact absurd hml.symm hm0
            · exact ⟨init, last, by rw [List.concat_eq_append]⟩
          subst hacc
          obtain ⟨m', rfl⟩ : ∃ m', m = m' + 1 := ⟨m - 1, by omega⟩
          have hil : init.length = m' := by simpa using hml
          have hr2 := hr1
          rw [show resStep (init ++ [last]) x = some init by simp [resStep, e1, e2], Option.bind_some] at hr2
          have HK2 := Lib.hid (show resB [] l = resB init (l.drop (k + 1)) ∧ init.length = m' from ⟨hr2, hil⟩)
          clear hr1 hr2 hml cW
          obtain ⟨g, hA⟩ : ∃ g, A' = some ⟨g, 0, none⟩ := by
            obtain ⟨g, cap, hv⟩ := ownsRow_succ hown
            injection hv with hv
            exact ⟨g, hv⟩
          subst hA
          have hpop : Hid (∀ j u, (init.map Value.string)[j]? = some u → wr.cell? ⟨g, j, none⟩ = some u) := Lib.hid fun j u hu => by
            have hjl : j < (init.map Value.string).length := (List.getElem?_eq_some_iff.1 hu).1
            rw [hown.cellAt j (by simp at hjl; omega), List.map_append, List.getElem?_append_left hjl]
            exact hu
          have hcap := ownsRow_cap hown
          have hgb := ownsRow_block hown g rfl
          have hgl : g < wr.heap.size := (hown.lt g rfl).2
          clear hown
          have hpos : ((m' : Int) + 1 == 0) = false := beq_eq_false_iff_ne.2 (by omega)
          have q1 : (0 : Int) ≤ (m' : Int) := by omega
          have hone : ∀ u ∈ init.map Value.string, u.oneCell' = true := by
            intro u hu; obtain ⟨_, _, rfl⟩ := List.mem_map.1 hu; rfl
          have hlen : (init.map Value.string).length = m' * 1 := by simp [hil]
          have hadd : ∀ j, (⟨g, 0, none⟩ : Addr).add j = ⟨g, j, none⟩ := fun j => by unfold Addr.add; split <;> simp_all
          have hnew : ∀ j u, (init.map Value.string)[j]? = some u → (wr.alloc (.cells #[] 9)).cell? ((⟨g, 0, none⟩ : Addr).add j) = some u := fun j u hu => by
            rw [hadd, World.cell?_of_block (w := wr) (Below.heap_alloc wr _ g hgl)]
            exact hpop.out j u hu
          have HN2 := Lib.hid hnew; have HO := Lib.hid hone; have HLN := Lib.hid hlen
          clear hnew hone hlen hadd
          go_wp2_with (at_builtin; refine wpList_append_own _ rfl _ _ 43 rfl w.heap.size 9 i0 (.string ⟨#[]⟩) 1 16 Tryz.underlying43 HI.out.1 HI.out.2.1 HI.out.2.2.1 HI.out.2.2.2 rfl (by decide) _ _ _ rfl (World.ownsRow_made (base := w.heap.size) (e := 9) (size := 1) wr #[] 0 hbs (Nat.zero_le _) rfl) ⟨g, 0, none⟩ m' c' (init.map .string) rfl HLN.out HN2.out HO.out (by unfold maxLen; omega) (by omega) (by simp; omega) ?_; intro v' w3 hown3 hgrow3 _)
          obtain ⟨A3, c3, rfl⟩ : ∃ A3 c3, v' = .slice A3 m' c3 := by
            rcases hown3.2 with ⟨h1, h2⟩ | ⟨g3, cap3, cur3, h1, _⟩
            · exact ⟨none, 0, by rw [h1]; congr 1; omega⟩
            · exact ⟨_, _, by rw [h1]; congr 1; omega⟩
          exact ⟨⟨k + 1, m', init, A3, c3, ⟨by go_num, rfl, by omega, by omega⟩, HK2, by simpa using hown3, (hbr.alloc hbs _).grown hgrow3 (by simp; omega) (fun r e => by injection e with e; simp at e; omega)⟩, by simp [intOf]; omega⟩
      have e2' : ¬ x.toList = [46, 46] := by simpa using e2
      cases hw : isWordB x
      · have hn : resB [] l = none := by rw [hr1]; simp [resStep, e1, e2, hw]
        rw [hw] at cW
        have HW := Lib.hid cW
        have HN := Lib.hid hn
        clear hr1 hml cW hw hn
        go_wp2_with (go_at_call 104; refine (HW.out _).mono ?_; rintro e w1 ⟨rfl, hb1⟩)
        rw [← HV.out, HN.out]
        exact ⟨belB, rfl⟩
      · have hr2 := hr1
        rw [show resStep acc x = some (acc ++ [x]) by simp [resStep, e1, e2, hw], Option.bind_some] at hr2
        have HK2 := Lib.hid (show resB [] l = resB (acc ++ [x]) (l.drop (k + 1)) ∧ (acc ++ [x]).length = m + 1 from ⟨hr2, by simp [hml]⟩)
        rw [hw] at cW
        have HW := Lib.hid cW
        clear hr1 hr2 hml cW hw
        go_wp2_with (first | (go_at_call 104; refine (HW.out _).mono ?_; rintro e w1 ⟨rfl, hb1⟩; have hown1 := ownsRow_keep hown hb1; have hbs1 := hb1.size; have hbw1 := bstep hbr hb1; have hc2 := cell_keep hb1 hc1; clear hown) | (at_builtin; refine wpList_append_own _ rfl _ _ 43 rfl w.heap.size 9 i0 (.string ⟨#[]⟩) 1 16 Tryz.underlying43 HI.out.1 HI.out.2.1 HI.out.2.2.1 HI.out.2.2.2 rfl (by decide) _ _ _ rfl (hown1.alloc _) ⟨w1.heap.size, 0, none⟩ 1 1 [.string x] rfl rfl (cell_one_new _ _ _) (by simp [Value.oneCell']) (by unfold maxLen; omega) (by omega) (by simp; omega) ?_; intro v' w3 hown3 hgrow3 _; obtain ⟨g1, cap1, rfl⟩ := ownsRow_succ hown3; have hb3 : Below w.heap.size w w3 := (hbw1.alloc hbw1.size _).grown hgrow3 (by simp; omega) (fun r e => ownsRow_block hown1 r e)))
        exact ⟨⟨k + 1, m + 1, acc ++ [x], some ⟨g1, 0, none⟩, cap1, ⟨by go_num, rfl, by omega, by omega⟩, HK2, by rw [List.map_append]; exact hown3, hb3⟩, by simp [intOf]; omega⟩
    · obtain rfl : k = n := by omega
      have hfin : resB [] l = some acc := by
        rw [HK.out.1, List.drop_eq_nil_of_le (by have := HL.out; omega), resB]
      have HF := Lib.hid hfin
      have hml := HK.out.2
      clear hfin HK
      go_wp2
      rw [← HV.out, HF.out]
      exact ⟨belB, A', c', by rw [hml]; rfl, by rw [hml]; exact Reads.of_own hown, fun a ha => by have := ownsRow_block hown a.block (by rw [ha]; rfl); omega⟩
end Go.Proofs.YtokfclikhfpmhaaGreatDoor
namespace Go.Proofs.YtokfclikhfpmhaaGreatDoor
open Go.RowKit Go.Sort
set_option linter.unusedVariables false
set_option linter.unusedSimpArgs false
set_option maxRecDepth 100000
def bothP (p q : ByteArray) : Option (Option Pat) := match compileB p, compileB q with
  | some x, some y => some (commonP x y)
  | _, _ => none
def BothPost (r : Option (Option Pat)) (w : World) (e : Ending) (w' : World) : Prop :=
  Below w.heap.size w w' ∧ match r with
  | none => ∃ (k : Nat) (t : ByteArray) (A : Option Addr) (n c : Nat) (b : Bool), e = .returned (.tuple #[.agg #[.int .i64 k, .string t, .slice A n c, .bool b], .bool false, .int .i64 1])
  | some none => ∃ (k : Nat) (t : ByteArray) (A : Option Addr) (n c : Nat) (b : Bool), e = .returned (.tuple #[.agg #[.int .i64 k, .string t, .slice A n c, .bool b], .bool false, .int .i64 0])
  | some (some p) => ∃ A c, e = .returned (.tuple #[.agg #[.int .i64 p.cust.kind, .string p.cust.text, .slice A p.parts.length c, .bool p.tail], .bool true, .int .i64 0]) ∧ Reads w' 2 A p.parts.length (partCells p.parts)
theorem BothPost.none_ {w w' : World} (k : Nat) (t : ByteArray) (A : Option Addr) (n c : Nat) (b : Bool) (hb : Below w.heap.size w w') : BothPost none w (.returned (.tuple #[.agg #[.int .i64 k, .string t, .slice A n c, .bool b], .bool false, .int .i64 1])) w' := ⟨hb, k, t, A, n, c, b, rfl⟩
end Go.Proofs.YtokfclikhfpmhaaGreatDoor
namespace Go.Proofs.YtokfclikhfpmhaaGreatDoor
open Go.RowKit Go.Sort
set_option linter.unusedVariables false
set_option linter.unusedSimpArgs false
set_option maxRecDepth 100000
def meetV (r : Option (Option Pat)) : Value := match r with
  | none => .tuple #[.bool false, .string ⟨#[]⟩, .int .i64 1]
  | some none => .tuple #[.bool false, .string ⟨#[]⟩, .int .i64 0]
  | some (some z) => .tuple #[.bool true, .string (joinS (withP z.cust.kind z.cust.text ⟨#[97]⟩ :: wordsL z.parts)), .int .i64 0]
end Go.Proofs.YtokfclikhfpmhaaGreatDoor
