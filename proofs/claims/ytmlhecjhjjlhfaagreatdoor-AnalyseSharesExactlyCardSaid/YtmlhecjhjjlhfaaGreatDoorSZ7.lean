/- What the cond package's small functions return. -/
import Derived.Test.YtmlhecjhjjlhfaaGreatDoorSZ3
import Derived.Test.YtmlhecjhjjlhfaaGreatDoorSZ1
import Derived.Sort.Walk0
import Derived.Test.YtmlhecjhjjlhfaaGreatDoorProg
import Derived.WalkKit
import Derived.WalkSpells
import Derived.WalkLawsBesides
import Derived.Below
import Derived.Deep.QuietTactic
import Derived.BigQuiet
import Derived.Lib.QuietBelow
import Derived.Lib.Strings
import Derived.Lib.Hide
import Derived.Deep.RegionWith
import Derived.Deep.RegionHeld3
import Derived.Lib.IndexBytes
import Derived.Test.YtmlhecjhjjlhfaaGreatDoorSZ5
import Derived.Deep.Upon
import Derived.OwnWalkIn
import Derived.Test.YtmlhecjhjjlhfaaGreatDoorSZ4
import Derived.Deep.DeepCutAuto
import Derived.Laws.Tables
namespace Go.Proofs.YtmlhecjhjjlhfaaGreatDoor
open Go.RowKit Go.Sort
set_option linter.unusedVariables false
set_option linter.unusedSimpArgs false
set_option maxRecDepth 100000
theorem isSite_any (n : Int) (w : World) : Calls Tryz.prog 151 #[.int .i64 n] w (Ret w (.bool (siteB n))) := by
  by_cases h0 : 0 ≤ n
  · by_cases h1 : n < 64
    · have hv : siteB n = true := decide_eq_true ⟨h0, h1⟩
      have d0 : decide (0 ≤ n) = true := decide_eq_true h0
      have d1 : decide (n < 64) = true := decide_eq_true h1
      rw [hv]
      go_enter Tryz.func151, Tryz.ntmps151
      go_wp2
      go_ret
      exact ⟨rfl, belB⟩
    · have hv : siteB n = false := decide_eq_false (fun h => h1 h.2)
      have d0 : decide (0 ≤ n) = true := decide_eq_true h0
      have d1 : decide (n < 64) = false := decide_eq_false h1
      rw [hv]
      go_enter Tryz.func151, Tryz.ntmps151
      go_wp2
      go_ret
      exact ⟨rfl, belB⟩
  · have hv : siteB n = false := decide_eq_false (fun h => h0 h.1)
    have d0 : decide (0 ≤ n) = false := decide_eq_false h0
    rw [hv]
    go_enter Tryz.func151, Tryz.ntmps151
    go_wp2
    go_ret
    exact ⟨rfl, belB⟩
theorem two_bytes (s : ByteArray) (h : s.size = 2) : s.data.toList = [s[0]'(by omega), s[1]'(by omega)] := by
  have hl : s.data.toList.length = 2 := by rw [← Lib.size_eq]; exact h
  refine List.ext_getElem (by simpa using hl) fun i h1 h2 => ?_
  have hi : i < 2 := by omega
  rcases i with _ | _ | i
  · rfl
  · rfl
  · omega
theorem country_two (s : ByteArray) (h : s.size = 2) : countryB s = (decide ((97 : Int) ≤ min ((s[0]'(by omega)).toNat : Int) ((s[1]'(by omega)).toNat : Int)) && decide (max ((s[0]'(by omega)).toNat : Int) ((s[1]'(by omega)).toNat : Int) ≤ 122)) := by
  unfold countryB
  rw [decide_eq_true h, Bool.true_and, two_bytes s h]
  simp only [List.all_cons, List.all_nil, Bool.and_true]
  rw [Bool.eq_iff_iff]
  simp only [Bool.and_eq_true, decide_eq_true_eq]
  omega
set_option maxHeartbeats 1000000 in
theorem isCountry_any (s : ByteArray) (w : World) (hs : s.size ≤ 4294967281) : Calls Tryz.prog 149 #[.string s] w (Ret w (.bool (countryB s))) := by
  by_cases h2 : s.size = 2
  · have d2 : ((s.size : Int) == 2) = true := by simp; omega
    have hv := country_two s h2
    have q0 : (0 : Int) < (s.size : Int) := by omega
    have q1 : (1 : Int) < (s.size : Int) := by omega
    rw [hv]
    clear hv
    cases e1 : decide ((97 : Int) ≤ min ((s[0]'(by omega)).toNat : Int) ((s[1]'(by omega)).toNat : Int))
    · go_enter Tryz.func149, Tryz.ntmps149
      go_wp2_with fail
      go_quiet (fail)
      go_wp2
      go_ret
      exact ⟨rfl, belB⟩
    · generalize e2 : decide (max ((s[0]'(by omega)).toNat : Int) ((s[1]'(by omega)).toNat : Int) ≤ 122) = b2
      go_enter Tryz.func149, Tryz.ntmps149
      go_wp2_with fail
      go_quiet (fail)
      go_wp2
      go_ret
      exact ⟨ret_bool (by simp), belB⟩
  · have d2 : ((s.size : Int) == 2) = false := beq_eq_false_iff_ne.2 (by omega)
    have hv : countryB s = false := by unfold countryB; rw [decide_eq_false h2]; rfl
    rw [hv]
    go_enter Tryz.func149, Tryz.ntmps149
    go_wp2_with fail
    go_quiet (fail)
    go_wp2
    go_ret
    exact ⟨rfl, belB⟩
theorem key_less2 (a b : ByteArray) : (!(Op.bytesLess a.toList b.toList || a.toList == b.toList)) = decide (b.data.toList < a.data.toList) := by
  rw [bytesLess_eq, Lib.toList_data, Lib.toList_data, Bool.eq_iff_iff]
  simp only [Bool.not_eq_true', Bool.or_eq_false_iff, decide_eq_false_iff_not, beq_eq_false_iff_ne, decide_eq_true_eq]
  constructor
  · rintro ⟨h1, h2⟩; exact lt_tri _ _ h2 h1
  · intro h
    exact ⟨fun h1 => List.lt_irrefl _ (List.lt_trans h h1), fun e => List.lt_irrefl _ (by rw [e] at h; exact h)⟩
theorem le_prev (x y : ByteArray) : (Op.bytesLess x.toList y.toList || x.toList == y.toList) = !ltB y x := by
  have := key_less2 x y
  unfold ltB
  rw [← this, Bool.not_not]
theorem okK_upto {α : Type} {lt : α → α → Bool} {right : α → Bool} {l : List α} {k : Nat} (h : (List.range k).all (okK lt right l) = true) (h2 : okK lt right l k = true) : (List.range (k + 1)).all (okK lt right l) = true := by
  rw [List.range_succ, List.all_append, h]; simp [h2]
theorem okK_fail {α : Type} {lt : α → α → Bool} {right : α → Bool} {l : List α} {k most : Nat} (hk : k < l.length) (h2 : okK lt right l k = false) : setB lt right most l = false := by
  unfold setB
  have : (List.range l.length).all (okK lt right l) = false := by
    rw [List.all_eq_false]
    exact ⟨k, by simpa using hk, by rw [h2]; simp⟩
  rw [this]; rfl
set_option maxHeartbeats 2000000 in
theorem isSetS_any (g : Nat) (eg : ∀ args w, (callFunc g args).run Tryz.prog w = .ok (.enter g args) w) (right : ByteArray → Bool) (A : Option Addr) (n c : Nat) (xs : List ByteArray) (most : Nat) (w : World)
    (hp : ∀ x ∈ xs, ∀ W, Env W → Calls Tryz.prog g #[.string x] W (Ret W (.bool (right x)))) (hA : Reads w 1 A n (xs.map .string)) (hn : n ≤ 1000000000) (hm : most ≤ 1000000) (hE : Env w) :
    Calls Tryz.prog 147 #[.slice A n c, .int .i64 most, .func (.func g) #[] #[]] w (Ret w (.bool (setB ltB right most xs))) := by
  have hl : xs.length = n := by have := hA.1; simp at this; omega
  have HP := Lib.hid hp; have HA := Lib.hid hA; have HL := Lib.hid hl; have HE := Lib.hid hE
  obtain ⟨V, hV⟩ : ∃ V, V = setB ltB right most xs := ⟨_, rfl⟩
  rw [← hV]
  have HV := Lib.hid hV
  clear hp hA hl hE hV
  go_enter Tryz.func147, Tryz.ntmps147
  go_wp2
  go_loopw [11] (fun i wr => ∃ k : Nat, k ≤ n ∧ i = .int .i64 k ∧ Hid ((List.range k).all (okK ltB right xs) = true) ∧ Below w.heap.size w wr) (fun i _ => n - (intOf i).toNat)
  case atStart => exact ⟨0, by omega, rfl, Lib.hid rfl, Below.refl _ _⟩
  case round =>
    obtain ⟨k, hk, rfl, HK, hb⟩ := hrel
    by_cases hlt : k < n
    · obtain ⟨x, hx⟩ : ∃ x, xs[k]? = some x := ⟨_, List.getElem?_eq_getElem (by have := HL.out; omega)⟩
      obtain ⟨pb, po, rfl, hcell⟩ := (HA.out.keep hb).2 (by omega)
      have hc1 : wr.cell? ⟨pb, po + k, none⟩ = some (.string x) := hcell k _ (by simp [hx])
      have hc := fun W h => HP.out x (List.mem_of_getElem? hx) W h
      have hok : okK ltB right xs k = (right x && (k == 0 || (match xs[k - 1]? with
        | none => true
        | some y => ltB y x))) := by unfold okK; rw [hx]; cases xs[k - 1]? <;> rfl
      have hfail : okK ltB right xs k = false → V = false := fun h => by rw [HV.out]; exact okK_fail (by have := HL.out; omega) h
      cases hr : right x
      · have hVf : V = false := hfail (by rw [hok, hr]; rfl)
        rw [hr] at hc
        have HC := Lib.hid hc
        clear hc hr hok hfail hcell hx
        subst hVf
        go_wp2_with (go_at_fn g; refine (HC.out _ (Env.keep HE.out belB)).mono ?_; rintro e w2 ⟨rfl, hb2⟩)
        go_ret
        exact ⟨rfl, belB⟩
      · rw [hr] at hc
        have HC := Lib.hid hc
        rcases k with _ | j
        · have HK2 : Hid ((List.range (0 + 1)).all (okK ltB right xs) = true) := Lib.hid (okK_upto HK.out (by rw [hok, hr]; rfl))
          simp only [Nat.add_zero] at hc1
          clear hc hr hok hfail hcell hx
          go_wp2_with (go_at_fn g; refine (HC.out _ (Env.keep HE.out belB)).mono ?_; rintro e w2 ⟨rfl, hb2⟩)
          exact ⟨⟨1, by omega, by go_num, HK2, belB⟩, by simp [intOf]; omega⟩
        · obtain ⟨y, hy⟩ : ∃ y, xs[j]? = some y := ⟨_, List.getElem?_eq_getElem (by have := HL.out; omega)⟩
          have hc2 : wr.cell? ⟨pb, po + j, none⟩ = some (.string y) := hcell j _ (by simp [hy])
          have hle := le_prev x y
          rw [Nat.add_sub_cancel, hy] at hok
          have hok : okK ltB right xs (j + 1) = ltB y x := by rw [hok, hr]; simp
          have hj0 : (0 : Int) ≤ (j : Int) := by omega
          have hj1 : (j : Int) < (n : Int) := by omega
          cases ht : ltB y x
          · have hVf : V = false := hfail (by rw [hok, ht])
            rw [ht] at hle
            clear hc hr hok hfail hcell hx hy
            subst hVf
            go_wp2_with (go_at_fn g; refine (HC.out _ (Env.keep HE.out belB)).mono ?_; rintro e w2 ⟨rfl, hb2⟩; have hc3 := cell_keep hb2 hc2)
            go_ret
            exact ⟨rfl, belB⟩
          · have HK2 : Hid ((List.range (j + 1 + 1)).all (okK ltB right xs) = true) := Lib.hid (okK_upto HK.out (by rw [hok, ht]))
            rw [ht] at hle
            clear hc hr hok hfail hcell hx hy
            go_wp2_with (go_at_fn g; refine (HC.out _ (Env.keep HE.out belB)).mono ?_; rintro e w2 ⟨rfl, hb2⟩; have hc3 := cell_keep hb2 hc2)
            exact ⟨⟨j + 1 + 1, by omega, by go_num, HK2, belB⟩, by simp [intOf]; omega⟩
    · obtain rfl : k = n := by omega
      have hv : V = decide (k ≤ most) := by rw [HV.out]; unfold setB; rw [HL.out, HK.out]; rfl
      by_cases hm2 : k ≤ most
      · rw [decide_eq_true hm2] at hv
        have d1 : decide ((k : Int) ≤ (most : Int)) = true := decide_eq_true (by omega)
        have d1' : decide (k ≤ most) = true := decide_eq_true hm2
        subst hv
        go_wp2
        go_ret
        exact ⟨rfl, hb⟩
      · rw [decide_eq_false hm2] at hv
        have d1 : decide ((k : Int) ≤ (most : Int)) = false := decide_eq_false (by omega)
        have d1' : decide (k ≤ most) = false := decide_eq_false hm2
        subst hv
        go_wp2
        go_ret
        exact ⟨rfl, hb⟩
end Go.Proofs.YtmlhecjhjjlhfaaGreatDoor
namespace Go.Proofs.YtmlhecjhjjlhfaaGreatDoor
open Go.RowKit Go.Sort
set_option linter.unusedVariables false
set_option linter.unusedSimpArgs false
set_option maxRecDepth 100000
section
variable {P : Program} {ops : Array Oper} {Q : Exit → Act → World → Prop} {i : Nat} {o : Oper} {a : Act} {W : World} {R : Value → World → Prop}
def OfType (w : World) (A : Option Addr) (n : Nat) (t : TypeId) : Prop := 0 < n → ∃ b o cs fr, A = some ⟨b, o, none⟩ ∧ Blk w b t cs fr
theorem OfType.keep {w w' : World} {A : Option Addr} {n : Nat} {t : TypeId} (h : OfType w A n t) (hb : Below w.heap.size w w') : OfType w' A n t := fun h0 =>
  let ⟨b, o, cs, fr, e, hB⟩ := h h0
  ⟨b, o, cs, fr, e, Blk.keep hB hb⟩
theorem OfType.off {w : World} {A : Option Addr} {n g : Nat} {t t' : TypeId} {cs : Array Value} {fr : Nat × Nat} (h : OfType w A n t) (hB : Blk w g t' cs fr) (ht : t ≠ t') : 0 < n → ∀ a, A = some a → a.block ≠ g := by
  intro h0 a ha hag
  obtain ⟨b, o, cs', fr', e, hb⟩ := h h0
  rw [e] at ha
  injection ha with ha
  subst ha
  dsimp only at hag
  subst hag
  have := hb.symm.trans hB
  injection this with this
  injection this with _ h2
  exact ht h2
theorem wanted_plain (hg : o.guard = none) (y : Nat → Option Bool) : Region.wanted o y = true := by
  unfold Region.wanted
  rw [hg]
theorem free_step {v : Value} {W' : World} (ho : ops[i]? = some o) (hg : o.guard = none) (hr : (execOp a.eval o).run P W = .ok (.value v) W') (hR : R v W') : wpOp P ops Q i (fun a' w' => ∃ v, a' = a.put o.dst v ∧ R v w') a W := by
  unfold wpOp
  rw [ho]
  dsimp only
  rw [if_pos (wanted_plain hg _)]
  refine .inl ?_
  unfold Oper.wp
  rw [hr]
  exact ⟨v, rfl, hR⟩
theorem free_call {f : FuncId} {args : Array Value} (ho : ops[i]? = some o) (hg : o.guard = none) (hr : (execOp a.eval o).run P W = .ok (.enter f args) W) (hc : Calls P f args W fun e W' => ∃ v, e = .returned v ∧ R v W') : wpOp P ops Q i (fun a' w' => ∃ v, a' = a.put o.dst v ∧ R v w') a W := by
  unfold wpOp
  rw [ho]
  dsimp only
  rw [if_pos (wanted_plain hg _)]
  refine .inl ?_
  unfold Oper.wp
  rw [hr]
  refine Calls.mono hc ?_
  rintro e W' ⟨v, rfl, hR⟩
  exact ⟨v, rfl, hR⟩
def OpsOk (S : Nat → Oper → Prop) : Nat → List Oper → Prop
  | _, [] => True
  | k, o :: l => S k o ∧ OpsOk S (k + 1) l
theorem ops_nil {S : Nat → Oper → Prop} {k : Nat} : OpsOk S k [] := trivial
theorem ops_cons {S : Nat → Oper → Prop} {k : Nat} {o : Oper} {l : List Oper} (h : S k o) (t : OpsOk S (k + 1) l) : OpsOk S k (o :: l) := ⟨h, t⟩
theorem ops_at {S : Nat → Oper → Prop} : ∀ (l : List Oper) (k : Nat), OpsOk S k l → ∀ (i : Nat) (o : Oper), l[i]? = some o → S (k + i) o
  | [], _, _, i, o, h => by simp at h
  | o :: l, k, h, 0, o', h' => by
    have : o = o' := by simpa using h'
    subst this
    exact h.1
  | o :: l, k, h, i + 1, o', h' => by
    have := ops_at l (k + 1) h.2 i o' (by simpa using h')
    rwa [show k + (i + 1) = k + 1 + i by omega]
def FreeS (ops : Array Oper) (md : Region.Mode) (m : Nat) (a1 : Act) (w1 : World) (G : World → World → Prop) (D : Nat → Value → World → Prop) (J : (Nat → Bool) → World → Prop) (step : Nat → (Act → World → Prop) → Act → World → Prop) (i : Nat) (o : Oper) : Prop :=
  ops[i]? = some o → ∀ (L : Nat → Bool) (a : Act) (w : World), Closed ops md L → L i = false → (∀ e ∈ o.after, Region.binds md e = true → L e.on = true) → J L w → G w1 w → AgreeM ops m a1 a → (∀ e ∈ o.after, Region.binds md e = true → D e.on (slotOf ops a e.on) w) →
    step i (fun a' w' => ∃ v, a' = a.put o.dst v ∧ D i v w' ∧ G w w' ∧ J (fun j => decide (j = i) || L j) w') a w
def putL : List Oper → (Nat → Value) → Nat → Act → Act
  | [], _, _, a => a
  | o :: l, vals, k, a => putL l vals (k + 1) (a.put o.dst (vals k))
theorem putL_eq (ops : Array Oper) : ∀ (l : List Oper) (vals : Nat → Value) (k : Nat) (a : Act), (∀ j, j < l.length → ops[k + j]? = l[j]?) → (List.range' k l.length).foldl (fun a j => a.put (dstOf ops j) (vals j)) a = putL l vals k a
  | [], _, _, _, _ => rfl
  | o :: l, vals, k, a, h => by
    rw [List.length_cons, List.range'_succ, List.foldl_cons, putL]
    have h0 : ops[k]? = some o := by simpa using h 0 (by simp)
    rw [show dstOf ops k = o.dst by unfold dstOf; rw [h0]; rfl]
    exact putL_eq ops l vals (k + 1) _ (fun j hj => by have := h (j + 1) (by simpa using hj); simpa [Nat.add_assoc, Nat.add_comm 1 j] using this)
def Region.freeB (md : Region.Mode) (l : List Oper) (m size : Nat) : Bool :=
  decide (m ≤ l.length) && Region.fair l.toArray md m size && Region.last l.toArray md m && Region.seqB md l.toArray (l.length - m) m ((List.replicate m true ++ List.replicate (l.length - m) false).toArray)
theorem agree_eval {m : Nat} {a1 a : Act} (h : AgreeM ops m a1 a) {t : Nat} (ht : (List.range m).all (fun j => dstOf ops j != some t) = true) : a.eval (.tmp t) = a1.eval (.tmp t) := by
  show a.tmps.getD t undef = a1.tmps.getD t undef
  have := h.off t (fun j hj => by have := List.all_eq_true.1 ht j (List.mem_range.2 hj); simpa using this)
  simp only [Array.getD_eq_getD_getElem?, this]
theorem tmp_eq (a : Act) (k : Nat) : a.tmps[k]?.getD undef = a.eval (.tmp k) := (Array.getD_eq_getD_getElem? ..).symm
theorem free_list {md : Region.Mode} {step : Nat → (Act → World → Prop) → Act → World → Prop} (hmono : Mono step) {l : List Oper} {a1 : Act} {w1 : World} (m : Nat) (hB : Region.freeB md l m a1.tmps.size = true)
    (G : World → World → Prop) (hrefl : ∀ w, G w w) (htr : ∀ a b c, G a b → G b c → G a c) (D : Nat → Value → World → Prop) (hD : ∀ i v w w', D i v w → G w w' → D i v w')
    (J : (Nat → Bool) → World → Prop) (hJ0 : J (fun _ => false) w1) (hops : OpsOk (FreeS l.toArray md m a1 w1 G D J step) 0 (l.take m))
    (hend : ∀ (vals : Nat → Value) w, G w1 w → J (fun j => decide (j < m)) w → (∀ j, j < m → D j (vals j) w) → anyG md l.toArray Q step (l.drop m).length ((List.replicate m true ++ List.replicate (l.length - m) false).toArray) (putL (l.take m) vals 0 a1) w) :
    (l.drop m).length + m = l.toArray.size ∧ anyG md l.toArray Q step ((l.drop m).length + m) (Array.replicate l.toArray.size false) a1 w1 := by
  unfold Region.freeB at hB
  simp only [Bool.and_eq_true, decide_eq_true_eq] at hB
  obtain ⟨⟨⟨hm, hf⟩, hl⟩, hs⟩ := hB
  refine ⟨by simp; omega, wpAny_free hmono m _ (by simpa using hm) a1 w1 G hrefl htr D hD J hJ0 hf hl (fun i o hi ho => ?_) (fun vals w h1 h2 h3 => ?_)⟩
  · have := ops_at _ 0 hops i o (by rw [List.getElem?_take_of_lt hi]; simpa using ho)
    rw [Nat.zero_add] at this
    exact this ho
  · have e : putTo l.toArray a1 vals m = putL (l.take m) vals 0 a1 := by
      unfold putTo
      have := putL_eq l.toArray (l.take m) vals 0 a1 (fun j hj => by
        rw [List.getElem?_take_of_lt (by simp at hj; omega)]
        simp)
      rw [List.length_take, Nat.min_eq_left hm] at this
      rw [← this, List.range_eq_range']
    rw [e]
    simpa using hend vals w h1 h2 h3
theorem wp_free {l : List Oper} (m : Nat) {id : Nat} {a : Act} {w : World} (hm : P.follows .mixedOrders = true) (hB : Region.freeB .any l m a.tmps.size = true)
    (G : World → World → Prop) (hrefl : ∀ w, G w w) (htr : ∀ a b c, G a b → G b c → G a c) (D : Nat → Value → World → Prop) (hD : ∀ i v w w', D i v w → G w w' → D i v w')
    (J : (Nat → Bool) → World → Prop) (hJ0 : J (fun _ => false) { w with drawn := w.drawn + 1 }) (hops : OpsOk (FreeS l.toArray .any m a { w with drawn := w.drawn + 1 } G D J (wpOp P l.toArray Q)) 0 (l.take m))
    (hend : ∀ (vals : Nat → Value) w', G { w with drawn := w.drawn + 1 } w' → J (fun j => decide (j < m)) w' → (∀ j, j < m → D j (vals j) w') → wpList P l.toArray Q (l.drop m) (putL (l.take m) vals 0 a) w') :
    (Code.region id l.toArray true).wp P Q a w := by
  have hs : Region.seqB .any l.toArray (l.length - m) m ((List.replicate m true ++ List.replicate (l.length - m) false).toArray) = true := by
    unfold Region.freeB at hB
    simp only [Bool.and_eq_true] at hB
    exact hB.2
  obtain ⟨h1, h2⟩ := free_list (Q := Q) mono_op m hB G hrefl htr D hD J hJ0 hops (fun vals w' g1 g2 g3 => G_of_seq (l.drop m) m _ _ _ (fun j => by simp) (by simpa using hs) (hend vals w' g1 g2 g3))
  exact wp_region_free hm _ m h1 h2
end
end Go.Proofs.YtmlhecjhjjlhfaaGreatDoor
namespace Go.Proofs.YtmlhecjhjjlhfaaGreatDoor
open Go.RowKit Go.Sort
set_option linter.unusedVariables false
set_option linter.unusedSimpArgs false
set_option maxRecDepth 100000
section
variable {P : Program}
theorem wp_build_as {o : Oper} {a : Act} {w : World} {K : Act → World → Prop} {Q : Exit → Act → World → Prop} (t : TypeId) (parts : Array (Nat × Operand)) (ho : o.op = .build t parts) (ps : Array (Nat × Value)) (hp : (parts.map fun (i, x) => (i, a.eval x)) = ps)
    (v : Value) (hr : (Instr.build t ps).run P w = .ok v w) (h : K (a.put o.dst v) w) : o.wp P a w K Q := by
  subst hp
  unfold Oper.wp execOp
  simp only [ho, Sem.run_bind, Sem.run_pure, Result.andThen_ok, hr]
  exact h
theorem wp_buildSlice_as {o : Oper} {a : Act} {w : World} {K : Act → World → Prop} {Q : Exit → Act → World → Prop} (t : TypeId) (n : Nat) (parts : Array (Nat × Operand)) (ho : o.op = .buildSlice t n parts) (ps : Array (Nat × Value)) (hp : (parts.map fun (i, x) => (i, a.eval x)) = ps)
    (v : Value) (w' : World) (hr : (Instr.buildSlice t n ps).run P w = .ok v w') (h : K (a.put o.dst v) w') : o.wp P a w K Q := by
  subst hp
  unfold Oper.wp execOp
  simp only [ho, Sem.run_bind, Sem.run_pure, Result.andThen_ok, hr]
  exact h
theorem wpList_build_as {ops : Array Oper} {rest : List Oper} {o : Oper} {a : Act} {w : World} {Q : Exit → Act → World → Prop} (hgd : o.guard = none) (t : TypeId) (parts : Array (Nat × Operand)) (ho : o.op = .build t parts) (ps : Array (Nat × Value)) (hp : (parts.map fun (i, x) => (i, a.eval x)) = ps)
    (v : Value) (hr : (Instr.build t ps).run P w = .ok v w) (h : wpList P ops Q rest (a.put o.dst v) w) : wpList P ops Q (o :: rest) a w :=
  wpList_plain hgd fun _ hK => wp_build_as t parts ho ps hp v hr (hK _ _ h)
theorem wpList_buildSlice_as {ops : Array Oper} {rest : List Oper} {o : Oper} {a : Act} {w : World} {Q : Exit → Act → World → Prop} (hgd : o.guard = none) (t : TypeId) (n : Nat) (parts : Array (Nat × Operand)) (ho : o.op = .buildSlice t n parts) (ps : Array (Nat × Value)) (hp : (parts.map fun (i, x) => (i, a.eval x)) = ps)
    (v : Value) (w' : World) (hr : (Instr.buildSlice t n ps).run P w = .ok v w') (h : wpList P ops Q rest (a.put o.dst v) w') : wpList P ops Q (o :: rest) a w :=
  wpList_plain hgd fun _ hK => wp_buildSlice_as t n parts ho ps hp v w' hr (hK _ _ h)
end
end Go.Proofs.YtmlhecjhjjlhfaaGreatDoor
namespace Go.Proofs.YtmlhecjhjjlhfaaGreatDoor
open Go.RowKit Go.Sort
set_option linter.unusedVariables false
set_option linter.unusedSimpArgs false
set_option maxRecDepth 100000
def exOne (T : Nat) (sg : Bool) : List Value := [.string (⟨#[114, 49]⟩ : ByteArray), .string (⟨#[97, 99, 109, 101, 47, 110, 101, 119, 115, 47, 42, 42]⟩ : ByteArray), .slice (some ⟨T, 0, none⟩) 1 1, .int .i64 10, .int .i64 0, .int .i64 0, .int .i64 0, .slice none 0 0, .int .i64 0, .int .i64 1099511627777, .string ⟨#[]⟩, .slice none 0 0, .slice none 0 0, .slice none 0 0, .int .i64 0, .bool sg, .int .i64 0, .string ⟨#[]⟩]
def exTwo (sg : Bool) : List Value := [.string (⟨#[114, 50]⟩ : ByteArray), .string (⟨#[97, 99, 109, 101, 47, 42, 42]⟩ : ByteArray), .slice none 0 0, .int .i64 100, .int .i64 50, .int .i64 1000, .int .i64 5, .slice none 0 0, .int .i64 0, .int .i64 1099511627777, .string ⟨#[]⟩, .slice none 0 0, .slice none 0 0, .slice none 0 0, .int .i64 0, .bool sg, .int .i64 0, .string ⟨#[]⟩]
end Go.Proofs.YtmlhecjhjjlhfaaGreatDoor
