/- analyse.Gap. -/
import Derived.Test.YtjhlpkhfdghngaaGreatDoorGZ44
import Derived.Test.YtjhlpkhfdghngaaGreatDoorGZ38
import Derived.Test.YtjhlpkhfdghngaaGreatDoorProg
import Derived.WalkKit
import Derived.WalkSpells
import Derived.WalkLawsBesides
import Derived.Below
import Derived.Deep.QuietTactic
import Derived.BigQuiet
import Derived.Lib.QuietBelow
import Derived.Lib.Strings
import Derived.Lib.Hide
import Derived.Deep.RegionWith
import Derived.Deep.RegionHeld3
import Derived.Lib.IndexBytes
import Derived.Test.YtjhlpkhfdghngaaGreatDoorGZ37
import Derived.Test.YtjhlpkhfdghngaaGreatDoorGZ32
import Derived.Test.YtjhlpkhfdghngaaGreatDoorGZ34
import Derived.Test.YtjhlpkhfdghngaaGreatDoorGZ43
import Derived.Test.YtjhlpkhfdghngaaGreatDoorGZ23
import Derived.Test.YtjhlpkhfdghngaaGreatDoorGZ26
namespace Go.Proofs.YtjhlpkhfdghngaaGreatDoor
open Go.RowKit Go.Sort
set_option linter.unusedVariables false
set_option linter.unusedSimpArgs false
set_option maxRecDepth 100000
theorem gap1_any (q : ByteArray) (w : World) (hq : q.size ≤ 100000) (hE : Env w) : Calls Tryz.prog 70 #[.string q] w (Ret w (.bool (!(compileB q).isSome))) := by
  have HH := Lib.hid (valid_any q w hq hE)
  clear hE
  generalize (compileB q).isSome = v at *
  go_enter Tryz.func70, Tryz.ntmps70
  go_wp2_with (go_at_call 49; refine HH.out.mono ?_; rintro e w2 ⟨rfl, hb2⟩)
  go_ret
  exact ⟨rfl, hb2⟩
def gapOk (p : ByteArray) (bs : List ByteArray) : Bool := (compileB p).isSome && decide (bs.length ≤ 64) && bs.all fun q => (compileB q).isSome
theorem all_comp : ∀ bs : List ByteArray, (bs.all fun q => (compileB q).isSome) = true → ∃ ys : List Pat, bs.map compileB = ys.map some
  | [], _ => ⟨[], rfl⟩
  | b :: bs, h => by
    rw [List.all_cons, Bool.and_eq_true] at h
    obtain ⟨y, hy⟩ := Option.isSome_iff_exists.1 h.1
    obtain ⟨ys, e⟩ := all_comp bs h.2
    exact ⟨y :: ys, by rw [List.map_cons, List.map_cons, hy, e]⟩
def GapRes (p : ByteArray) (bs : List ByteArray) (s : ByteArray) (is : Bool) (er : Int) : Prop :=
  (gapOk p bs = false ∧ s = ⟨#[]⟩ ∧ is = false ∧ er = 1) ∨ (gapOk p bs = true ∧ er = 0 ∧ GapPost p bs s is ∧ s.size ≤ 4096)
set_option maxHeartbeats 8000000 in
theorem gap_any (p : ByteArray) (A : Option Addr) (n c : Nat) (bs : List ByteArray) (w : World) (hp : p.size ≤ 100000) (hR : Reads w 1 A n (bs.map .string)) (hn : n ≤ 10 ∨ 64 < n ∧ n ≤ 1000) (hs : ∀ b ∈ bs, b.size ≤ 300) (hE : Env w) (hT : Tab w) :
    Calls Tryz.prog 20 #[.string p, .slice A n c] w fun e w' => ∃ s is er, e = .returned (.tuple #[.string s, .bool is, .int .i64 er]) ∧ GapRes p bs s is er ∧ Below w.heap.size w w' := by
  have hbl : bs.length = n := by have := hR.1; simpa using this
  have cV := fun (W : World) (hb : Below w.heap.size w W) => valid_any p W hp (hE.keep hb)
  have cA := fun (W : World) (hb : Below w.heap.size w W) => containsFuncS0_any 70 (enters_of Tryz.func70 (by kernel_rfl) rfl) (fun q => !(compileB q).isSome) A n c bs W (fun y hy W' hb' => gap1_any y W' (by have := hs y hy; omega) (hE.keep (bstep hb hb'))) (hR.keep hb) (by omega)
  have hany : (bs.any fun q => !(compileB q).isSome) = !(bs.all fun q => (compileB q).isSome) := by rw [List.all_eq_not_any_not]; simp
  rw [hany] at cA
  clear hany
  have cG := fun (x : Pat) (hx : compileB p = some x) (h : (bs.all fun q => (compileB q).isSome) = true) (h10 : n ≤ 10) (W : World) (hb : Below w.heap.size w W) => show Calls Tryz.prog 71 #[.string p, .slice A n c] W fun e w' => ∃ s is, e = .returned (.tuple #[.string s, .bool is]) ∧ GapPost p bs s is ∧ s.size ≤ 4096 ∧ Below W.heap.size W w' by
    obtain ⟨ys, e⟩ := all_comp bs h
    exact gapT_any p x ys A n c bs W hx e hp (hR.keep hb) h10 hs (hE.keep hb) (hT.keep hb)
  have HV := Lib.hid cV; have HA := Lib.hid cA; have HG := Lib.hid cG; have HBL := Lib.hid hbl
  clear cV cA cG hE hT hR hs
  have fail_ : gapOk p bs = false → GapRes p bs ⟨#[]⟩ false 1 := fun h => .inl ⟨h, rfl, rfl, rfl⟩
  have HFA := Lib.hid fail_
  clear fail_
  cases hv : (compileB p).isSome
  · have hf : gapOk p bs = false := by unfold gapOk; rw [hv]; rfl
    have HF := Lib.hid (HFA.out hf)
    rw [hv] at HV
    clear hf hv HFA hbl
    go_enter Tryz.func20, Tryz.ntmps20
    go_wp2_with (go_at_call 49; refine (HV.out _ (Below.refl _ _)).mono ?_; rintro e w2 ⟨rfl, hb2⟩)
    go_ret3
    exact ⟨_, _, _, rfl, HF.out, hb2⟩
  · rw [hv] at HV
    by_cases h64 : 64 < n
    · have hf : gapOk p bs = false := by unfold gapOk; rw [hv, decide_eq_false (by omega)]; rfl
      have HF := Lib.hid (HFA.out hf)
      have h6 : decide ((64 : Int) < (n : Int)) = true := decide_eq_true (by omega)
      clear hf hv HFA hbl
      go_enter Tryz.func20, Tryz.ntmps20
      go_wp2_with (go_at_call 49; refine (HV.out _ (Below.refl _ _)).mono ?_; rintro e w2 ⟨rfl, hb2⟩)
      go_ret3
      exact ⟨_, _, _, rfl, HF.out, hb2⟩
    · have h6 : decide ((64 : Int) < (n : Int)) = false := decide_eq_false (by omega)
      have h10 : n ≤ 10 := by omega
      cases ha : (bs.all fun q => (compileB q).isSome)
      · have hf : gapOk p bs = false := by unfold gapOk; rw [ha, Bool.and_false]
        have HF := Lib.hid (HFA.out hf)
        rw [ha] at HA
        clear hf hv ha HFA hbl
        go_enter Tryz.func20, Tryz.ntmps20
        go_wp2_with (first | (go_at_call 49; refine (HV.out _ (Below.refl _ _)).mono ?_; rintro e w2 ⟨rfl, hb2⟩) | (go_at_call 69; refine (HA.out _ hb2).mono ?_; rintro e w3 ⟨rfl, hb3⟩))
        go_ret3
        exact ⟨_, _, _, rfl, HF.out, bstep hb2 hb3⟩
      · have hf : gapOk p bs = true := by unfold gapOk; rw [hv, ha, decide_eq_true (by omega)]; rfl
        obtain ⟨x, hx⟩ := Option.isSome_iff_exists.1 hv
        have HG2 := Lib.hid (HG.out x hx ha h10)
        rw [ha] at HA
        have HF := Lib.hid hf
        clear hf hv ha hx HFA hbl HG
        go_enter Tryz.func20, Tryz.ntmps20
        go_wp2_with (first | (go_at_call 49; refine (HV.out _ (Below.refl _ _)).mono ?_; rintro e w2 ⟨rfl, hb2⟩) | (go_at_call 69; refine (HA.out _ hb2).mono ?_; rintro e w3 ⟨rfl, hb3⟩) | (go_at_call 71; refine (HG2.out _ (bstep hb2 hb3)).mono ?_; rintro e w4 ⟨s, is, rfl, hpo, hsz, hb4⟩; have HPO := Lib.hid hpo; clear hpo))
        go_ret3
        exact ⟨_, _, _, rfl, .inr ⟨HF.out, rfl, HPO.out, hsz⟩, bstep (bstep hb2 hb3) hb4⟩
end Go.Proofs.YtjhlpkhfdghngaaGreatDoor
namespace Go.Proofs.YtjhlpkhfdghngaaGreatDoor
open Go.RowKit Go.Sort
set_option linter.unusedVariables false
set_option linter.unusedSimpArgs false
set_option maxRecDepth 100000
def shortB (p : ByteArray) (bs : List ByteArray) : Bool := (bs.all fun b => decide (b.size ≤ 300)) && (decide (p.size ≤ 300) && (decide (bs.length ≤ 10) || (decide (64 < bs.length) && decide (bs.length < 100))))
theorem short_facts {p : ByteArray} {bs : List ByteArray} (h : shortB p bs = true) : (∀ b ∈ bs, b.size ≤ 300) ∧ p.size ≤ 300 ∧ (bs.length ≤ 10 ∨ 64 < bs.length ∧ bs.length < 100) := by
  unfold shortB at h
  simp only [Bool.and_eq_true, Bool.or_eq_true, decide_eq_true_eq, List.all_eq_true] at h
  exact h
set_option maxHeartbeats 4000000 in
theorem short_any (p : ByteArray) (A : Option Addr) (n c : Nat) (bs : List ByteArray) (w : World) (hR : Reads w 1 A n (bs.map .string)) (hn : n ≤ 9223372036854775807) :
    Calls Tryz.prog 18 #[.string p, .slice A n c] w (Ret w (.bool (shortB p bs))) := by
  have hl : bs.length = n := by have := hR.1; simpa using this
  obtain ⟨Z, hZ⟩ : ∃ Z, Z = shortB p bs := ⟨_, rfl⟩
  rw [← hZ]
  unfold shortB at hZ
  rw [hl] at hZ
  obtain ⟨f, hf⟩ : ∃ f : ByteArray → Bool, f = fun b => decide (b.size ≤ 300) := ⟨_, rfl⟩
  rw [← hf] at hZ
  obtain ⟨V, hV⟩ : ∃ V, V = bs.all f := ⟨_, rfl⟩
  rw [← hV] at hZ
  have HA := Lib.hid hR; have HL := Lib.hid hl; have HV := Lib.hid hV; have HF := Lib.hid hf
  have f1 : ∀ v : Bool, v = Z → Ending.returned (.bool v) = Ending.returned (.bool Z) := fun v h => by rw [h]
  have F1 := Lib.hid f1; have HZ := Lib.hid hZ
  clear hR hl hV hf f1 hZ
  go_enter Tryz.func18, Tryz.ntmps18
  go_wp2
  go_loopw [5] (fun i wr => ∃ k : Nat, k ≤ n ∧ i = .int .i64 k ∧ Hid (V = (bs.drop k).all f) ∧ Below w.heap.size w wr) (fun i _ => n - (intOf i).toNat)
  case atStart => exact ⟨0, by omega, rfl, Lib.hid (by rw [HV.out]; rfl), Below.refl _ _⟩
  case round =>
    obtain ⟨k, hk, rfl, HI, hb⟩ := hrel
    by_cases hlt : k < n
    · obtain ⟨b, o, u, rfl, hu, hcell⟩ := (HA.out.keep hb).at_ hlt
      obtain ⟨x, hx, rfl⟩ := strs_at hu
      have hk0 : (0 : Int) ≤ (k : Int) := by omega
      have hk1 : (k : Int) < (n : Int) := by omega
      clear hu
      by_cases hz : x.size ≤ 300
      · have hpx : f x = true := by rw [HF.out]; exact decide_eq_true hz
        have hVs : V = (bs.drop (k + 1)).all f := by rw [HI.out]; exact all_step _ _ _ _ hx hpx
        have HI2 := Lib.hid hVs
        clear hx hpx hVs
        go_wp2
        exact ⟨⟨k + 1, by omega, by go_num, HI2, hb⟩, by simp [intOf]; omega⟩
      · have hpx : f x = false := by rw [HF.out]; exact decide_eq_false hz
        have hVf : V = false := by rw [HI.out]; exact all_stop _ _ _ _ hx hpx
        subst hVf
        clear hx hpx
        go_wp2
        go_ret
        exact ⟨F1.out _ (by rw [HZ.out, Bool.false_and]), hb⟩
    · have hVt : V = true := by rw [HI.out, List.drop_eq_nil_of_le (by have := HL.out; omega)]; rfl
      subst hVt
      rcases Nat.lt_or_ge 300 p.size with h1 | h1
      · go_wp2
        go_ret
        exact ⟨F1.out _ (by rw [HZ.out, Bool.eq_iff_iff]; simp; omega), hb⟩
      · rcases Nat.lt_or_ge 10 n with h2 | h2
        · rcases Nat.lt_or_ge 64 n with h3 | h3
          · go_wp2
            go_ret
            exact ⟨F1.out _ (by rw [HZ.out, Bool.eq_iff_iff]; simp; omega), hb⟩
          · go_wp2
            go_ret
            exact ⟨F1.out _ (by rw [HZ.out, Bool.eq_iff_iff]; simp; omega), hb⟩
        · go_wp2
          go_ret
          exact ⟨F1.out _ (by rw [HZ.out, Bool.eq_iff_iff]; simp; omega), hb⟩
end Go.Proofs.YtjhlpkhfdghngaaGreatDoor
namespace Go.Proofs.YtjhlpkhfdghngaaGreatDoor
open Go.RowKit Go.Sort
set_option linter.unusedVariables false
set_option linter.unusedSimpArgs false
set_option maxRecDepth 100000
def shOk (L : List RuleM) (i : Int) : Bool := validL L && (decide (0 ≤ i) && decide (i < (L.length : Int)))
def ShRes (L : List RuleM) (i : Int) (s : ByteArray) (is : Bool) (er : Int) : Prop :=
  (shOk L i = false ∧ s = ⟨#[]⟩ ∧ is = false ∧ er = 1) ∨ (shOk L i = true ∧ er = 0 ∧ ∃ x, L[i.toNat]? = some x ∧ (((tagsR x.r.tags).2 ≠ 0 ∧ s = ⟨#[]⟩ ∧ is = true) ∨ ((tagsR x.r.tags).2 = 0 ∧ ∃ g, is = !g ∧ GapPost x.r.pat (befK L x.r.tags i.toNat) s g ∧ s.size ≤ 4096)))
theorem bef_comp {L : List RuleM} (hv : validL L = true) (ts : List ByteArray) (k : Nat) : ∃ ys : List Pat, (befK L ts k).map compileB = ys.map some := by
  refine all_comp _ (List.all_eq_true.2 fun q hq => ?_)
  unfold befK at hq
  obtain ⟨x, hx, rfl⟩ := List.mem_map.1 hq
  have hm := List.mem_of_mem_take (List.mem_filter.1 hx).1
  unfold validL at hv
  rw [Bool.and_eq_true, List.all_eq_true] at hv
  have h1 := hv.2 x hm
  unfold ruleOkB at h1
  rw [Bool.and_eq_true] at h1
  exact (rule_ok h1.1).pat
theorem bef_size {L : List RuleM} (hf : ∀ x ∈ L, RuleFits x.r) (ts : List ByteArray) (k : Nat) : ∀ q ∈ befK L ts k, q.size ≤ 300 := by
  intro q hq
  unfold befK at hq
  obtain ⟨x, hx, rfl⟩ := List.mem_map.1 hq
  have := (hf x (List.mem_of_mem_take (List.mem_filter.1 hx).1)).pat
  omega
theorem valid_at {L : List RuleM} (hv : validL L = true) {x : RuleM} (hx : x ∈ L) : RuleOk x.r ∧ checkV x.L = 0 := by
  unfold validL at hv
  rw [Bool.and_eq_true, List.all_eq_true] at hv
  have h1 := hv.2 x hx
  unfold ruleOkB at h1
  rw [Bool.and_eq_true, decide_eq_true_eq] at h1
  exact ⟨rule_ok h1.1, h1.2⟩
theorem gapB_any {A : Option Addr} {n c : Nat} {L : List RuleM} {w : World} (hv : validL L = true) (hf : ∀ x ∈ L, RuleFits x.r) (ts : List ByteArray) (k : Nat) (hk : k ≤ 10) (p : ByteArray) (hp : (compileB p).isSome = true) (hps : p.size ≤ 100000) (hE : Env w) (hT : Tab w) (B : Option Addr) (d : Nat) (hR : Reads w 1 B (befK L ts k).length ((befK L ts k).map .string)) :
    Calls Tryz.prog 71 #[.string p, .slice B (befK L ts k).length d] w fun e w' => ∃ s is, e = .returned (.tuple #[.string s, .bool is]) ∧ GapPost p (befK L ts k) s is ∧ s.size ≤ 4096 ∧ Below w.heap.size w w' := by
  obtain ⟨x, hx⟩ := Option.isSome_iff_exists.1 hp
  obtain ⟨ys, hy⟩ := bef_comp hv ts k
  exact gapT_any p x ys B _ d _ w hx hy hps hR (Nat.le_trans (befK_len L ts k) hk) (bef_size hf ts k) hE hT
set_option maxHeartbeats 8000000 in
theorem shadowed_any (A : Option Addr) (n c : Nat) (i : Int) (L : List RuleM) (w : World) (hL : RulesRead w A n L) (hf : ∀ x ∈ L, RuleFits x.r) (hc : ∀ x ∈ L, RuleCaps x) (hcap : n ≤ c) (hn : n ≤ 10) (hE : Env w) (hT : Tab w) :
    Calls Tryz.prog 22 #[.slice A n c, .int .i64 i] w fun e w' => ∃ s is er, e = .returned (.tuple #[.string s, .bool is, .int .i64 er]) ∧ ShRes L i s is er ∧ Below w.heap.size w w' := by
  have hlen := hL.len
  have cV := isValid_any A n c L w hL hf hc (by omega) hE
  have hbad : shOk L i = false → ShRes L i ⟨#[]⟩ false 1 := fun h => .inl ⟨h, rfl, rfl, rfl⟩
  have HBAD := Lib.hid hbad
  clear hbad
  cases hv : validL L
  · have hs := HBAD.out (by unfold shOk; rw [hv]; rfl)
    rw [hv] at cV
    have HV := Lib.hid cV; have HS := Lib.hid hs
    clear cV hs hv HBAD hL hf hc hE hT hlen
    go_enter Tryz.func22, Tryz.ntmps22
    go_wp2_with (go_at_call 75; refine HV.out.mono ?_; rintro e w2 ⟨rfl, hb2⟩)
    go_ret3
    exact ⟨_, _, _, rfl, HS.out, hb2⟩
  rw [hv] at cV
  have HV := Lib.hid cV
  clear cV
  by_cases hi0 : i < 0
  · have hs := HBAD.out (by unfold shOk; rw [hv, decide_eq_false (by omega)]; rfl)
    have d0 : decide (i < 0) = true := decide_eq_true hi0
    have HS := Lib.hid hs
    clear hs hv HBAD hL hf hc hE hT hlen
    go_enter Tryz.func22, Tryz.ntmps22
    go_wp2_with (go_at_call 75; refine HV.out.mono ?_; rintro e w2 ⟨rfl, hb2⟩)
    go_ret3
    exact ⟨_, _, _, rfl, HS.out, hb2⟩
  have d0 : decide (i < 0) = false := decide_eq_false hi0
  obtain ⟨k, rfl⟩ : ∃ k : Nat, i = (k : Int) := ⟨i.toNat, by omega⟩
  by_cases hkn : n ≤ k
  · have hs := HBAD.out (by unfold shOk; rw [hv, decide_eq_true (by omega), decide_eq_false (by omega)]; rfl)
    have d1 : decide ((n : Int) ≤ (k : Int)) = true := decide_eq_true (by omega)
    have HS := Lib.hid hs
    clear hs hv HBAD hL hf hc hE hT hlen
    go_enter Tryz.func22, Tryz.ntmps22
    go_wp2_with (go_at_call 75; refine HV.out.mono ?_; rintro e w2 ⟨rfl, hb2⟩)
    go_ret3
    exact ⟨_, _, _, rfl, HS.out, hb2⟩
  have d1 : decide ((n : Int) ≤ (k : Int)) = false := decide_eq_false (by omega)
  have hok : shOk L (k : Int) = true := by unfold shOk; rw [hv, decide_eq_true (by omega), decide_eq_true (by omega)]; rfl
  obtain ⟨x, hx⟩ : ∃ x, L[k]? = some x := ⟨_, List.getElem?_eq_getElem (by omega)⟩
  have hxm := List.mem_of_getElem? hx
  have hx2 : L[((k : Nat) : Int).toNat]? = some x := by rw [Int.toNat_natCast]; exact hx
  have cB := fun (W : World) (hb : Below w.heap.size w W) => befor_any A n c k L x W (hL.keep hb) hx (by omega) hcap hf
  have HOK := Lib.hid hok; have HX2 := Lib.hid hx2
  by_cases ht : (tagsR x.r.tags).2 = 0
  rotate_left
  · have cB2 : ∀ W, Below w.heap.size w W → Calls Tryz.prog 76 #[.slice A n c, .int .i64 (k : Int)] W (Ret W (.tuple #[.slice none 0 0, .bool false])) := fun W hb => (cB W hb).mono fun e w' h => by
      rcases h with ⟨hb', ⟨_, rfl⟩ | ⟨h, _⟩⟩
      · exact ⟨rfl, hb'⟩
      · exact absurd h ht
    have HB := Lib.hid cB2; have HT0 := Lib.hid ht
    clear cB cB2 ht hok hx hx2 hxm HBAD hL hf hc hE hT hlen hv
    go_enter Tryz.func22, Tryz.ntmps22
    go_wp2_with (first | (go_at_call 75; refine HV.out.mono ?_; rintro e w2 ⟨rfl, hb2⟩) | (go_at_call 76; refine (HB.out _ hb2).mono ?_; rintro e w3 ⟨rfl, hb3⟩))
    go_ret3
    exact ⟨_, _, _, rfl, .inr ⟨HOK.out, rfl, x, HX2.out, .inl ⟨HT0.out, rfl, rfl⟩⟩, bstep hb2 hb3⟩
  · obtain ⟨_, b, o, rfl, hcell⟩ := hL.at_ hx
    have cB2 : ∀ W, Below w.heap.size w W → Calls Tryz.prog 76 #[.slice (some ⟨b, o, none⟩) n c, .int .i64 (k : Int)] W (fun e w' => ∃ B d, e = .returned (.tuple #[.slice B (befK L x.r.tags k).length d, .bool true]) ∧ Reads w' 1 B (befK L x.r.tags k).length ((befK L x.r.tags k).map .string) ∧ Below W.heap.size W w') := fun W hb => (cB W hb).mono fun e w' h => by
      rcases h with ⟨hb', ⟨h, _⟩ | ⟨_, B, d, rfl, hr⟩⟩
      · exact absurd ht h
      · exact ⟨B, d, rfl, hr, hb'⟩
    have hpat := (valid_at hv hxm).1.pat
    have cG := fun (W : World) (hb : Below w.heap.size w W) (B : Option Addr) (d : Nat) hR => gapB_any (A := some ⟨b, o, none⟩) (n := n) (c := c) (w := W) hv hf x.r.tags k (by omega) x.r.pat hpat (by have := (hf x hxm).pat; omega) (hE.keep hb) (hT.keep hb) B d hR
    have hc1 : w.cell? ⟨b, o + k * 18 + 1, none⟩ = some (.string x.r.pat) := hcell 1 _ rfl
    have HB := Lib.hid cB2; have HT0 := Lib.hid ht; have HG := Lib.hid cG; have HC1 := Lib.hid hc1
    clear cB cB2 cG ht hok hx hx2 hxm HBAD hL hf hc hE hT hlen hv hcell hc1 hpat
    have hk0 : (0 : Int) ≤ (k : Int) := by omega
    have hk1 : (k : Int) < (n : Int) := by omega
    go_enter Tryz.func22, Tryz.ntmps22
    go_wp2_with (first | (go_at_call 75; refine HV.out.mono ?_; rintro e w2 ⟨rfl, hb2⟩) | (go_at_call 76; refine (HB.out _ hb2).mono ?_; rintro e w3 ⟨B, d, rfl, hr3, hb3⟩; have hb23 := bstep hb2 hb3; have z1 := cell_keep hb23 HC1.out; have HR3 := Lib.hid hr3; clear hr3) | (go_at_call 71; refine (HG.out _ hb23 _ _ HR3.out).mono ?_; rintro e w4 ⟨s, is, rfl, hpo, hsz, hb4⟩; have HPO := Lib.hid hpo; clear hpo))
    go_ret3
    exact ⟨_, _, _, rfl, .inr ⟨HOK.out, rfl, x, HX2.out, .inr ⟨HT0.out, is, rfl, by rw [Int.toNat_natCast]; exact HPO.out, hsz⟩⟩, bstep hb23 hb4⟩
end Go.Proofs.YtjhlpkhfdghngaaGreatDoor
namespace Go.Proofs.YtjhlpkhfdghngaaGreatDoor
open Go.RowKit Go.Sort
set_option linter.unusedVariables false
set_option linter.unusedSimpArgs false
set_option maxRecDepth 100000
def DeadAt (L : List RuleM) (k : Nat) (x : RuleM) (a : AskV) (is : Bool) : Prop :=
  (is = true ∧ a = noAsk ∧ ((tagsR x.r.tags).2 ≠ 0 ∨ x.r.allow.till ≤ x.r.allow.fr ∨ ((tagsR x.r.tags).2 = 0 ∧ pmeet x.r.pat x.r.allow.pat = none) ∨ ((tagsR x.r.tags).2 = 0 ∧ x.r.allow.fr < x.r.allow.till ∧ ∃ m s, pmeet x.r.pat x.r.allow.pat = some m ∧ GapPost m (befK L x.r.tags k) s false))) ∨
  (is = false ∧ (tagsR x.r.tags).2 = 0 ∧ x.r.allow.fr < x.r.allow.till ∧ ∃ m s, pmeet x.r.pat x.r.allow.pat = some m ∧ GapPost m (befK L x.r.tags k) s true ∧ s.size ≤ 4096 ∧ a = { sampleC x.r.allow with addr := s })
theorem bothV_meet {p q : ByteArray} (hp : (compileB p).isSome = true) (hq : (compileB q).isSome = true) : bothV (bothP p q) = match pmeet p q with
    | some m => .tuple #[.string m, .bool true, .int .i64 0]
    | none => .tuple #[.string ⟨#[]⟩, .bool false, .int .i64 0] := by
  obtain ⟨x, hx⟩ := Option.isSome_iff_exists.1 hp
  obtain ⟨y, hy⟩ := Option.isSome_iff_exists.1 hq
  unfold bothP pmeet
  rw [if_neg (comp_ne hp), if_neg (comp_ne hq), hx, hy]
  dsimp only
  cases commonP x y <;> rfl
theorem infCon : (Tryz.prog.info? 31).map (·.size) = some 7 := by kernel_rfl
theorem agg_cond (w : World) : (isAgg 31).run Tryz.prog w = .ok true w := by
  unfold isAgg
  rw [Sem.run_bind, run_underlying Tryz.underlying31 w]
  rfl
theorem condA_load (W : World) (b o : Nat) (x : RuleM) (hc : ∀ j u, x.cells[j]? = some u → W.cell? ⟨b, o + j, none⟩ = some u) : (loadVar 31 ⟨b, o + 8, none⟩).run Tryz.prog W = .ok (CondMem.val x.r.allow x.m) W :=
  load_row_of 7 [.int .i64 x.r.allow.fr, .int .i64 x.r.allow.till, .string x.r.allow.pat, .slice x.m.A x.r.allow.cl.length x.m.ca, .slice x.m.B x.r.allow.co.length x.m.cb, .slice x.m.S x.r.allow.si.length x.m.cs, .int .i64 x.r.allow.us] rfl Tryz.underlying31 infCon agg_cond W b (o + 8) (fun j u hu => by
    have hj : j < 7 := (List.getElem?_eq_some_iff.1 hu).1
    have h8 : x.cells[8 + j]? = some u := by
      rw [← hu]
      match j, hj with
      | 0, _ => rfl
      | 1, _ => rfl
      | 2, _ => rfl
      | 3, _ => rfl
      | 4, _ => rfl
      | 5, _ => rfl
      | 6, _ => rfl
    have := hc (8 + j) u h8
    rwa [← Nat.add_assoc] at this)
theorem ABox.keepB {w w' : World} {g : Nat} {ad cl co : ByteArray} {si lo hi : Int} (h : ABox w g ad cl co si lo hi) (hb : Below w.heap.size w w') : ABox w' g ad cl co si lo hi := Blk.keep h hb
theorem ABox.free {w : World} {g : Nat} {ad cl co : ByteArray} {si lo hi : Int} (h : ABox w g ad cl co si lo hi) : w.frozen? ⟨g, 0, none⟩ = false ∧ w.frozen? ⟨g, 1, none⟩ = false ∧ w.frozen? ⟨g, 2, none⟩ = false ∧ w.frozen? ⟨g, 3, none⟩ = false ∧ w.frozen? ⟨g, 4, none⟩ = false ∧ w.frozen? ⟨g, 5, none⟩ = false :=
  ⟨Blk.free0 h 0, Blk.free0 h 1, Blk.free0 h 2, Blk.free0 h 3, Blk.free0 h 4, Blk.free0 h 5⟩
end Go.Proofs.YtjhlpkhfdghngaaGreatDoor
