/- What 'Split', 'HasTag' and 'Under' return. -/
import Derived.Test.YtjhlpkhfdghngaaGreatDoorGZ33
namespace Go.Proofs.YtjhlpkhfdghngaaGreatDoor
open Go.RowKit Go.Sort
set_option linter.unusedVariables false
set_option linter.unusedSimpArgs false
set_option maxRecDepth 100000
theorem tagsR_err (ps : List ByteArray) : (tagsR ps).2 = 0 ∨ (tagsR ps).2 = 1 ∨ (tagsR ps).2 = 2 := by
 unfold tagsR; split <;> (try split) <;> simp
set_option maxHeartbeats 2000000 in
theorem addrSplit_any (s : ByteArray) (w : World) (hs : s.size ≤ 100000) (hE : Env w) : Calls Tryz.prog 225 #[.string s] w (SplitPost (splitR s) w) := by
 cases hem : s.toList.isEmpty
 ·have hr : splitR s = if (tagsR (splitB 44 s)).2 = 0 ∧ ((tagsR (splitB 44 s)).1.toList == s.toList) = true then (splitB 44 s, 0) else ([], 3) := by
   unfold splitR; rw [if_neg (by simp [hem])]
  rw [hr]
  have cS := split_any s 44 w (by omega) hE
  have hnum := splitB_num 44 s
  have hsz := splitB_size 44 s
  have herr := tagsR_err (splitB 44 s)
  have cT := fun A c W h => tags_any A (splitB 44 s).length c (splitB 44 s) W h (by omega) (fun p hp => by have := hsz p hp; omega)
  unfold tagsV at cT
  generalize splitB 44 s = ps at *
  generalize tagsR ps = r at *
  obtain ⟨T, er⟩ := r
  dsimp only at *
  have HT := Lib.hid cT
  have HS := Lib.hid cS
  clear cT cS hr
  have walkbad : ∀ V, V = SplitPost ([], 3) w → (er = 0 → (T.toList == s.toList) = false) → Calls Tryz.prog 225 #[.string s] w V := by
   intro V hV h
   have HV := Lib.hid hV
   rcases herr with rfl | rfl | rfl
   ·have h := h rfl
    go_enter Tryz.func225, Tryz.ntmps225
    go_wp2_with (first | (go_at_call 138; refine HS.out.mono ?_; rintro e w1 ⟨hb1, A, c, rfl, hR, hA⟩) | (go_at_call 23; refine (HT.out _ _ _ hR).mono ?_; rintro e w2 ⟨rfl, hb2⟩))
    rw [HV.out]; exact SplitPost.none_ belB
   all_goals
    go_enter Tryz.func225, Tryz.ntmps225
    go_wp2_with (first | (go_at_call 138; refine HS.out.mono ?_; rintro e w1 ⟨hb1, A, c, rfl, hR, hA⟩) | (go_at_call 23; refine (HT.out _ _ _ hR).mono ?_; rintro e w2 ⟨rfl, hb2⟩))
    rw [HV.out]; exact SplitPost.none_ belB
  by_cases hok : er = 0 ∧ (T.toList == s.toList) = true
  ·rw [if_pos hok]
   obtain ⟨rfl, he⟩ := hok
   generalize hV : SplitPost (ps, 0) w = V
   have HV := Lib.hid hV
   clear hV
   go_enter Tryz.func225, Tryz.ntmps225
   go_wp2_with (first | (go_at_call 138; refine HS.out.mono ?_; rintro e w1 ⟨hb1, A, c, rfl, hR, hA⟩) | (go_at_call 23; refine (HT.out _ _ _ hR).mono ?_; rintro e w2 ⟨rfl, hb2⟩))
   rw [← HV.out]; exact ⟨belB, A, c, rfl, hR.keep hb2⟩
  ·rw [if_neg hok]
   exact walkbad _ rfl (fun h0 => by simpa [h0] using hok)
 ·have hr : splitR s = ([], 0) := by unfold splitR; rw [if_pos hem]
  rw [hr]
  go_enter Tryz.func225, Tryz.ntmps225
  go_wp2
  go_ret2
  exact SplitPost.none_ belB
theorem hasTag_any (s tag : ByteArray) (w : World) (hs : s.size ≤ 100000) (hE : Env w) : Calls Tryz.prog 161 #[.string s, .string tag] w (Ret w (.bool (hasTagB s tag))) := by
 have cS := addrSplit_any s w hs hE
 unfold hasTagB
 have hlen : (splitR s).1.length ≤ 200000 := by
  unfold splitR
  have := splitB_num 44 s
  split
  ·simp
  ·split
   ·simp; omega
   ·simp
 generalize splitR s = r at *
 obtain ⟨ps, er⟩ := r
 dsimp only at *
 have HS := Lib.hid cS
 clear cS
 have cK : ∀ (A : Option Addr) (c : Nat) (W : World), Reads W 1 A ps.length (ps.map .string) → Calls Tryz.prog 148 #[.slice A ps.length c, .string tag] W (Ret W (.bool (Lib.containsS ps tag))) := by
  intro A c W hR
  by_cases h0 : ps = []
  ·subst h0
   refine (Tryz.slices_Contains_string_empty A c tag W).mono ?_
   rintro e w' ⟨rfl, rfl⟩
   exact ⟨rfl, Below.refl _ _⟩
  ·obtain ⟨b, o, rfl, hc⟩ := hR.2 (List.length_pos_iff.2 h0)
   have := Tryz.slices_Contains_string b o ps.length c ps tag W (Nat.le_refl _) (by omega) (fun j hj => by
    refine hc j _ ?_
    rw [List.getElem?_map, List.getElem?_eq_getElem hj]
    simp [List.getD_eq_getElem?_getD, List.getElem?_eq_getElem hj])
   refine this.mono ?_
   rintro e w' ⟨rfl, rfl⟩
   rw [List.take_length]
   exact ⟨rfl, Below.refl _ _⟩
 have HK := Lib.hid cK
 clear cK
 generalize Lib.containsS ps tag = res at *
 go_enter Tryz.func161, Tryz.ntmps161
 go_wp2_with (first | (go_at_call 225; refine HS.out.mono ?_; rintro e w1 ⟨hb1, A, c, rfl, hR⟩) | (go_at_call 148; refine (HK.out _ _ _ hR).mono ?_; rintro e w2 ⟨rfl, hb2⟩))
 go_ret
 exact ⟨rfl, belB⟩
end Go.Proofs.YtjhlpkhfdghngaaGreatDoor
namespace Go.Proofs.YtjhlpkhfdghngaaGreatDoor
open Go.RowKit Go.Sort
set_option linter.unusedVariables false
set_option linter.unusedSimpArgs false
set_option maxRecDepth 100000
section
variable {w : World} {g : Nat} {fr till us : Int} {pat : ByteArray} {A B S : Option Addr} {na ca nb cb ns cs : Nat}
end
theorem all_take2 {α : Type} {p : α → Bool} {l : List α} {k : Nat} {x : α} (h : (l.take k).all p = true) (hx : l[k]? = some x) (hp : p x = true) : (l.take (k + 1)).all p = true := by
 rw [List.take_add_one, hx]
 simp [h, hp]
theorem all_false2 {α : Type} {p : α → Bool} {l : List α} {k : Nat} {x : α} (hx : l[k]? = some x) (hp : p x = false) : l.all p = false := by
 rw [List.all_eq_false]
 exact ⟨x, List.mem_of_getElem? hx, by rw [hp]; decide⟩
set_option maxHeartbeats 4000000 in
theorem rFew_any (fr till us : Int) (pat : ByteArray) (A B S : Option Addr) (na ca nb cb ns cs : Nat) (cl co : List ByteArray) (w : World) (hA : Reads w 1 A na (cl.map .string)) (hB : Reads w 1 B nb (co.map .string)) :
  Calls Tryz.prog 105 #[.agg #[.int .i64 fr, .int .i64 till, .string pat, .slice A na ca, .slice B nb cb, .slice S ns cs, .int .i64 us]] w (Ret w (.bool (fewC na nb ns pat cl co))) := by
 have hna : cl.length = na := by have := hA.1; simp at this; omega
 have hnb : co.length = nb := by have := hB.1; simp at this; omega
 obtain ⟨V, hV⟩ : ∃ V, V = fewC na nb ns pat cl co := ⟨_, rfl⟩
 rw [← hV]
 unfold fewC at hV
 have HA := Lib.hid hA; have HB := Lib.hid hB; have HNA := Lib.hid hna; have HNB := Lib.hid hnb
 clear hA hB hna hnb
 by_cases h1 : na ≤ 40
 rotate_left
 ·obtain rfl : V = false := by rw [hV]; simp [h1]
  have d1 : decide ((40 : Int) < (na : Int)) = true := decide_eq_true (by omega)
  clear hV
  go_enter Tryz.func105, Tryz.ntmps105
  go_wp2
  go_ret
  exact ⟨rfl, belB⟩
 have d1 : decide ((40 : Int) < (na : Int)) = false := decide_eq_false (by omega)
 by_cases h2 : nb ≤ 40
 rotate_left
 ·obtain rfl : V = false := by rw [hV]; simp [h2]
  have d2 : decide ((40 : Int) < (nb : Int)) = true := decide_eq_true (by omega)
  clear hV
  go_enter Tryz.func105, Tryz.ntmps105
  go_wp2
  go_ret
  exact ⟨rfl, belB⟩
 have d2 : decide ((40 : Int) < (nb : Int)) = false := decide_eq_false (by omega)
 by_cases h3 : ns ≤ 70
 rotate_left
 ·obtain rfl : V = false := by rw [hV]; simp [h3]
  have d3 : decide ((70 : Int) < (ns : Int)) = true := decide_eq_true (by omega)
  clear hV
  go_enter Tryz.func105, Tryz.ntmps105
  go_wp2
  go_ret
  exact ⟨rfl, belB⟩
 have d3 : decide ((70 : Int) < (ns : Int)) = false := decide_eq_false (by omega)
 by_cases h4 : pat.size ≤ 1000
 rotate_left
 ·obtain rfl : V = false := by rw [hV]; simp [h4]
  have d4 : decide ((1000 : Int) < (pat.size : Int)) = true := decide_eq_true (by omega)
  clear hV
  go_enter Tryz.func105, Tryz.ntmps105
  go_wp2
  go_ret
  exact ⟨rfl, belB⟩
 have d4 : decide ((1000 : Int) < (pat.size : Int)) = false := decide_eq_false (by omega)
 have hv2 : V = (cl.all (fun x => decide (x.size ≤ 100)) && co.all (fun x => decide (x.size ≤ 100))) := by rw [hV]; simp [h1, h2, h3, h4]
 have HV := Lib.hid hv2
 clear hV hv2
 go_enter Tryz.func105, Tryz.ntmps105
 go_wp2
 have hX0 : CBox (w.alloc (.cells #[.int .i64 fr, .int .i64 till, .string pat, .slice A na ca, .slice B nb cb, .slice S ns cs, .int .i64 us] 31)) w.heap.size fr till pat A na ca B nb cb S ns cs us := World.alloc_heap_new _ _
 go_loopw [3] (fun vi wr => ∃ k : Nat, vi = .int .i64 k ∧ k ≤ na ∧ Hid ((cl.take k).all (fun x => decide (x.size ≤ 100)) = true) ∧ CBox wr w.heap.size fr till pat A na ca B nb cb S ns cs us ∧ Below w.heap.size w wr) (fun i _ => na - (intOf i).toNat)
 case atStart => exact ⟨0, rfl, Nat.zero_le _, Lib.hid (by simp), hX0, balloc (Below.refl _ _) _⟩
 case round =>
  clear hX0
  obtain ⟨k, rfl, hk, HK, hX, hbr⟩ := hrel
  obtain ⟨x0, x1, x2, x3, x4, x5, x6⟩ := hX.facts
  by_cases hlt : k < na
  ·obtain ⟨x, hx⟩ : ∃ x, cl[k]? = some x := ⟨_, List.getElem?_eq_getElem (by have := HNA.out; omega)⟩
   obtain ⟨b, o, rfl, hcell⟩ := (HA.out.keep hbr).2 (by omega)
   have hc1 : wr.cell? ⟨b, o + k, none⟩ = some (.string x) := hcell k _ (by simp [hx])
   have hk0 : (0 : Int) ≤ (k : Int) := by omega
   have hk1 : (k : Int) < (na : Int) := by omega
   by_cases hs : x.size ≤ 100
   ·have HK2 : Hid ((cl.take (k + 1)).all (fun x => decide (x.size ≤ 100)) = true) := Lib.hid (all_take2 HK.out hx (by simpa using hs))
    have d5 : decide ((100 : Int) < (x.size : Int)) = false := decide_eq_false (by omega)
    clear hcell hx HK
    go_wp2
    exact ⟨⟨k + 1, by go_num, by omega, HK2, hX, hbr⟩, by simp [intOf]; omega⟩
   ·obtain rfl : V = false := by rw [HV.out, all_false2 hx (by simpa using hs)]; rfl
    have d5 : decide ((100 : Int) < (x.size : Int)) = true := decide_eq_true (by omega)
    clear hcell hx HK
    go_wp2
    go_ret
    exact ⟨rfl, hbr⟩
  ·obtain rfl : k = na := by omega
   have hall : cl.all (fun x => decide (x.size ≤ 100)) = true := by
    have := HK.out
    rwa [List.take_of_length_le (by have := HNA.out; omega)] at this
   have hv3 : V = co.all (fun x => decide (x.size ≤ 100)) := by rw [HV.out, hall, Bool.true_and]
   have HV2 := Lib.hid hv3
   clear hall hv3 HK HV
   go_wp2
   clear x0 x1 x2 x3 x4 x5 x6
   obtain ⟨wo, rfl⟩ : ∃ wo : World, wo = wr := ⟨_, rfl⟩
   go_loopw [4] (fun vi wz => ∃ j : Nat, vi = .int .i64 j ∧ j ≤ nb ∧ Hid ((co.take j).all (fun x => decide (x.size ≤ 100)) = true) ∧ CBox wz w.heap.size fr till pat A k ca B nb cb S ns cs us ∧ Below w.heap.size w wz) (fun i _ => nb - (intOf i).toNat)
   case atStart => exact ⟨0, rfl, Nat.zero_le _, Lib.hid (by simp), hX, hbr⟩
   case round =>
    clear hX hbr
    obtain ⟨j, rfl, hj, HJ, hX, hbr⟩ := hrel
    obtain ⟨x0, x1, x2, x3, x4, x5, x6⟩ := hX.facts
    by_cases hlt2 : j < nb
    ·obtain ⟨x, hx⟩ : ∃ x, co[j]? = some x := ⟨_, List.getElem?_eq_getElem (by have := HNB.out; omega)⟩
     obtain ⟨b, o, rfl, hcell⟩ := (HB.out.keep hbr).2 (by omega)
     have hc1 : wr.cell? ⟨b, o + j, none⟩ = some (.string x) := hcell j _ (by simp [hx])
     have hj0 : (0 : Int) ≤ (j : Int) := by omega
     have hj1 : (j : Int) < (nb : Int) := by omega
     by_cases hs : x.size ≤ 100
     ·have HJ2 : Hid ((co.take (j + 1)).all (fun x => decide (x.size ≤ 100)) = true) := Lib.hid (all_take2 HJ.out hx (by simpa using hs))
      have d5 : decide ((100 : Int) < (x.size : Int)) = false := decide_eq_false (by omega)
      clear hcell hx HJ
      go_wp2
      exact ⟨⟨j + 1, by go_num, by omega, HJ2, hX, hbr⟩, by simp [intOf]; omega⟩
     ·obtain rfl : V = false := by rw [HV2.out, all_false2 hx (by simpa using hs)]
      have d5 : decide ((100 : Int) < (x.size : Int)) = true := decide_eq_true (by omega)
      clear hcell hx HJ
      go_wp2
      go_ret
      exact ⟨rfl, hbr⟩
    ·obtain rfl : j = nb := by omega
     have hall : co.all (fun x => decide (x.size ≤ 100)) = true := by
      have := HJ.out
      rwa [List.take_of_length_le (by have := HNB.out; omega)] at this
     obtain rfl : V = true := by rw [HV2.out, hall]
     go_wp2
     go_ret
     exact ⟨rfl, hbr⟩
end Go.Proofs.YtjhlpkhfdghngaaGreatDoor
namespace Go.Proofs.YtjhlpkhfdghngaaGreatDoor
open Go.RowKit Go.Sort
set_option linter.unusedVariables false
set_option linter.unusedSimpArgs false
set_option maxRecDepth 100000
theorem ask_times {a : AskV} (h : validAsk a = true) : 0 ≤ a.lo ∧ a.lo ≤ a.hi ∧ a.hi ≤ 1099511627776 ∧ isNameB a.client = true ∧ countryB a.country = true ∧ siteB a.site = true ∧ readB a.addr = true := by
 unfold validAsk at h
 simp only [Bool.and_eq_true, decide_eq_true_eq] at h
 exact ⟨h.2.1, h.2.2.1, h.2.2.2, h.1.1.1.2, h.1.1.2, h.1.2, h.1.1.1.1⟩
end Go.Proofs.YtjhlpkhfdghngaaGreatDoor
namespace Go.Proofs.YtjhlpkhfdghngaaGreatDoor
open Go.RowKit Go.Sort
set_option linter.unusedVariables false
set_option linter.unusedSimpArgs false
set_option maxRecDepth 100000
set_option maxHeartbeats 2000000 in
theorem rFewAsk_any (a : AskV) (w : World) : Calls Tryz.prog 26 #[AskV.val a] w (Ret w (.bool (decide (a.addr.size ≤ 5000) && decide (a.client.size ≤ 5000) && decide (a.country.size ≤ 5000)))) := by
 obtain ⟨ad, cl, co, si, lo, hi⟩ := a
 unfold AskV.val
 dsimp only
 by_cases h1 : ad.size ≤ 5000
 ·have d1 : decide ((ad.size : Int) ≤ 5000) = true := decide_eq_true (by omega)
  by_cases h2 : cl.size ≤ 5000
  ·have d2 : decide ((cl.size : Int) ≤ 5000) = true := decide_eq_true (by omega)
   by_cases h3 : co.size ≤ 5000
   ·have d3 : decide ((co.size : Int) ≤ 5000) = true := decide_eq_true (by omega)
    rw [decide_eq_true h1, decide_eq_true h2, decide_eq_true h3]
    go_enter Tryz.func26, Tryz.ntmps26
    go_wp2
    go_ret
    exact ⟨rfl, belB⟩
   ·have d3 : decide ((co.size : Int) ≤ 5000) = false := decide_eq_false (by omega)
    rw [decide_eq_true h1, decide_eq_true h2, decide_eq_false h3]
    go_enter Tryz.func26, Tryz.ntmps26
    go_wp2
    go_ret
    exact ⟨rfl, belB⟩
  ·have d2 : decide ((cl.size : Int) ≤ 5000) = false := decide_eq_false (by omega)
   rw [decide_eq_true h1, decide_eq_false h2]
   go_enter Tryz.func26, Tryz.ntmps26
   go_wp2
   go_ret
   exact ⟨rfl, belB⟩
 ·have d1 : decide ((ad.size : Int) ≤ 5000) = false := decide_eq_false (by omega)
  rw [decide_eq_false h1]
  go_enter Tryz.func26, Tryz.ntmps26
  go_wp2
  go_ret
  exact ⟨rfl, belB⟩
end Go.Proofs.YtjhlpkhfdghngaaGreatDoor
namespace Go.Proofs.YtjhlpkhfdghngaaGreatDoor
open Go.RowKit Go.Sort
set_option linter.unusedVariables false
set_option linter.unusedSimpArgs false
set_option maxRecDepth 100000
open Go.Maps
theorem alloc2_cell (w : World) (cs : Array Value) (t : TypeId) (o : Obj) {k : Nat} {v : Value} (h : cs[k]? = some v) : ((w.alloc (.cells cs t)).alloc o).cell? ⟨w.heap.size, k, none⟩ = some v := by
 rw [cell_of_row _ _ _ cs t (0, 0) (heap_alloc2_old w (.cells cs t) o)]; exact h
end Go.Proofs.YtjhlpkhfdghngaaGreatDoor
namespace Go.Proofs.YtjhlpkhfdghngaaGreatDoor
open Go.RowKit Go.Sort
set_option linter.unusedVariables false
set_option linter.unusedSimpArgs false
set_option maxRecDepth 100000
theorem matches1_any (t tags : ByteArray) (b : Nat) (w : World) (hc : w.cell? ⟨b, 0, none⟩ = some (.string tags)) (hs : tags.size ≤ 100000) (hE : Env w) : Calls Tryz.prog 160 #[.string t, .pointer (some ⟨b, 0, none⟩)] w (Ret w (.bool (!hasTagB tags t))) := by
 have HH := Lib.hid (hasTag_any tags t w hs hE)
 clear hE
 generalize hasTagB tags t = v at *
 go_enter Tryz.func160, Tryz.ntmps160
 go_wp2_with (go_at_call 161; refine HH.out.mono ?_; rintro e w2 ⟨rfl, hb2⟩)
 go_ret
 exact ⟨rfl, hb2⟩
def mtX (r : RuleV) (a t : ByteArray) : Bool := matchB r.pat a && r.tags.all (hasTagB t)
theorem any_not {α : Type} (p : α → Bool) : ∀ l : List α, (!l.any fun x => !p x) = l.all p
 | [] => rfl
 | x :: l => by
  have := any_not p l
  simp only [List.any_cons, List.all_cons, Bool.not_or, Bool.not_not, this]
set_option maxHeartbeats 4000000 in
theorem matches_any (x : RuleM) (a t : ByteArray) (w : World) (hR : RuleReads w x) (hp : x.r.pat.size ≤ 100000) (hn : x.r.tags.length ≤ 1000) (ha : a.size ≤ 100000) (ht : t.size ≤ 100000) (hE : Env w) :
  Calls Tryz.prog 86 #[x.val, .string a, .string t] w (Ret w (.bool (mtX x.r a t))) := by
 have cM := fun (W : World) (hb : Below w.heap.size w W) => match_any x.r.pat a W hp ha (Env.keep hE hb)
 have hb0 : ∀ W (hb : Below w.heap.size w W) (b : Nat), W.cell? ⟨b, 0, none⟩ = some (.string t) → Calls Tryz.prog 69 #[.slice x.T x.r.tags.length x.ct, .func (.func 160) #[] #[.pointer (some ⟨b, 0, none⟩)]] W (Ret W (.bool (x.r.tags.any fun y => !hasTagB t y))) := fun W hb b hc =>
  containsFuncC_any 160 (enters_of Tryz.func160 (by kernel_rfl) rfl) (.pointer (some ⟨b, 0, none⟩)) (fun y => !hasTagB t y) x.T x.r.tags.length x.ct x.r.tags W (fun y hy W' hb' => matches1_any y t b W' (cell_keep hb' hc) ht (Env.keep hE (bstep hb hb'))) (hR.tags.keep hb) (by omega)
 have hv : mtX x.r a t = (matchB x.r.pat a && !(x.r.tags.any fun y => !hasTagB t y)) := by unfold mtX; rw [any_not]
 rw [hv]
 generalize (x.r.tags.any fun y => !hasTagB t y) = b2 at *
 generalize matchB x.r.pat a = b1 at *
 have hmf : ∀ (fn : Fn) (first cap : Array Value) (w : World), (Instr.makeFunc fn first cap).run Tryz.prog w = .ok (.func fn first cap) w := fun _ _ _ _ => rfl
 have HM := Lib.hid cM; have HC := Lib.hid hb0
 clear cM hb0 hv hR hE
 rw [RuleM.val_eq]
 cases b1
 ·rw [Bool.false_and]
  go_enter Tryz.func86, Tryz.ntmps86
  go_wp2_with (go_at_call 21; refine (HM.out _ belB).mono ?_; rintro e w2 ⟨rfl, hb2⟩)
  go_ret
  exact ⟨rfl, belB⟩
 ·rw [Bool.true_and]
  go_enter Tryz.func86, Tryz.ntmps86
  go_wp2_with (first | (go_at_call 21; refine (HM.out _ belB).mono ?_; rintro e w2 ⟨rfl, hb2⟩; have y2 := cell_keep hb2 (alloc2_cell w _ _ _ (k := 2) rfl); have y9 : w2.cell? ⟨w.heap.size + 1, 0, none⟩ = some (.string t) := cell_keep hb2 ((cell_of_row _ _ 0 _ _ _ (heap_alloc2_new w _ _)).trans rfl)) | (go_at_call 69; refine (HC.out _ belB _ y9).mono ?_; rintro e w3 ⟨rfl, hb3⟩))
  go_ret
  exact ⟨rfl, belB⟩
end Go.Proofs.YtjhlpkhfdghngaaGreatDoor
namespace Go.Proofs.YtjhlpkhfdghngaaGreatDoor
open Go.RowKit Go.Sort
set_option linter.unusedVariables false
set_option linter.unusedSimpArgs false
set_option maxRecDepth 100000
theorem choose1_any (x : RuleM) (a t : ByteArray) (b b2 : Nat) (w : World) (hR : RuleReads w x) (hc : w.cell? ⟨b, 0, none⟩ = some (.string a)) (hc2 : w.cell? ⟨b2, 0, none⟩ = some (.string t)) (hp : x.r.pat.size ≤ 100000) (hn : x.r.tags.length ≤ 1000) (ha : a.size ≤ 100000) (ht : t.size ≤ 100000) (hE : Env w) :
  Calls Tryz.prog 85 #[x.val, .pointer (some ⟨b, 0, none⟩), .pointer (some ⟨b2, 0, none⟩)] w (Ret w (.bool (mtX x.r a t))) := by
 have hm := fun W (hb : Below w.heap.size w W) => matches_any x a t W (hR.keep hb) hp hn ha ht (Env.keep hE hb)
 rw [RuleM.val_eq] at *
 have HM := Lib.hid hm
 clear hm hR hE
 generalize mtX x.r a t = v at *
 have hl1 := cell_lt hc
 have hl2 := cell_lt hc2
 go_enter Tryz.func85, Tryz.ntmps85
 go_wp2_with (go_at_call 86; refine (HM.out _ belB).mono ?_; rintro e w2 ⟨rfl, hb2⟩)
 go_ret
 exact ⟨rfl, belB⟩
set_option maxHeartbeats 2000000 in
theorem indexFuncR_any (g : Nat) (eg : ∀ args w, (callFunc g args).run Tryz.prog w = .ok (.enter g args) w) (cv cv2 : Value) (p : RuleM → Bool) (A : Option Addr) (n c : Nat) (L : List RuleM) (w : World)
  (hp : ∀ x ∈ L, ∀ W, Below w.heap.size w W → Calls Tryz.prog g #[x.val, cv, cv2] W (Ret W (.bool (p x)))) (hA : RulesRead w A n L) (hn : n ≤ 1000000000) :
  Calls Tryz.prog 84 #[.slice A n c, .func (.func g) #[] #[cv, cv2]] w (Ret w (.int .i64 (idxA p L 0))) := by
 have hl : n ≤ L.length ∧ L.length ≤ n := by have := hA.len; omega
 have HP := Lib.hid hp; have HA := Lib.hid hA
 clear hp hA
 go_enter Tryz.func84, Tryz.ntmps84
 go_wp2
 go_loopw [8] (fun i wr => ∃ k : Nat, k ≤ n ∧ i = .int .i64 k ∧ Hid (idxA p L 0 = idxA p (L.drop k) k) ∧ Below w.heap.size w wr) (fun i _ => n - (intOf i).toNat)
 case atStart => exact ⟨0, by omega, rfl, Lib.hid rfl, Below.refl _ _⟩
 case round =>
  obtain ⟨k, hk, rfl, HI, hb⟩ := hrel
  by_cases hlt : k < n
  ·obtain ⟨x, hx⟩ : ∃ x, L[k]? = some x := ⟨_, List.getElem?_eq_getElem (by omega)⟩
   obtain ⟨_, b, o, rfl, hcell⟩ := (HA.out.keep hb).at_ hx
   have hld := rule_load wr b (o + k * 18) x hcell
   have hc := HP.out x (List.mem_of_getElem? hx) wr hb
   have hd : L.drop k = x :: L.drop (k + 1) := by
    obtain ⟨hl2, rfl⟩ := List.getElem?_eq_some_iff.1 hx
    exact List.drop_eq_getElem_cons hl2
   have HI2 := HI.out
   rw [hd, idxA] at HI2
   have HX := Lib.hid hcell
   clear hd hx HI hcell
   have HI := Lib.hid HI2
   clear HI2
   have hxv : x.val = x.val := rfl
   generalize x.val = xv at hld hc
   clear hxv
   cases hpx : p x
   all_goals
    rw [hpx] at hc HI
    have HC := Lib.hid hc
    clear hc hpx
    go_wp2_with (first | (refine wpList_load_addr rfl _ _ rfl ⟨b, o + k * 18, none⟩ xv rfl hld ?_) | (go_at_fn g; refine (HC.out).mono ?_; rintro e w2 ⟨rfl, hb2⟩))
   ·refine ⟨⟨k + 1, by omega, by go_num, Lib.hid (by have := HI.out; simpa using this), bstep hb hb2⟩, by simp [intOf]; omega⟩
   ·go_ret
    have := HI.out
    exact ⟨ret_int (by rw [this]; simp), bstep hb hb2⟩
  ·have he : idxA p L 0 = -1 := by rw [HI.out, List.drop_eq_nil_of_le (by omega)]; rfl
   have HE := Lib.hid he
   clear he HI
   go_wp2
   go_ret
   exact ⟨ret_int HE.out.symm, hb⟩
def chooseX (L : List RuleM) (a t : ByteArray) : Int := idxA (fun x => mtX x.r a t) L 0
structure RulesFit (L : List RuleM) : Prop where
 n : L.length ≤ 1000
 p : ∀ x ∈ L, x.r.pat.size ≤ 100000
 t : ∀ x ∈ L, x.r.tags.length ≤ 1000
set_option maxHeartbeats 4000000 in
theorem choose_any (A : Option Addr) (n c : Nat) (L : List RuleM) (a t : ByteArray) (w : World) (hL : RulesRead w A n L) (hf : RulesFit L) (ha : a.size ≤ 100000) (ht : t.size ≤ 100000) (hE : Env w) :
  Calls Tryz.prog 25 #[.slice A n c, .string a, .string t] w (Ret w (.int .i64 (chooseX L a t))) := by
 have hn : n ≤ 1000 := by have := hL.len; have := hf.n; omega
 have hi : Calls Tryz.prog 84 #[.slice A n c, .func (.func 85) #[] #[.pointer (some ⟨w.heap.size, 0, none⟩), .pointer (some ⟨w.heap.size + 1, 0, none⟩)]] ((w.alloc (.cells #[.string a] 9)).alloc (.cells #[.string t] 9)) (Ret ((w.alloc (.cells #[.string a] 9)).alloc (.cells #[.string t] 9)) (.int .i64 (chooseX L a t))) := by
  have hb : Below w.heap.size w ((w.alloc (.cells #[.string a] 9)).alloc (.cells #[.string t] 9)) := belB
  refine indexFuncR_any 85 (enters_of Tryz.func85 (by kernel_rfl) rfl) _ _ (fun x => mtX x.r a t) A n c L _ (fun x hx W hb' => ?_) (hL.keep hb) (by omega)
  exact choose1_any x a t _ _ W ((hL.each x hx).keep (bstep hb hb')) (cell_keep hb' (alloc2_cell w #[.string a] _ _ (k := 0) rfl)) (cell_keep hb' ((cell_of_row _ _ 0 _ _ _ (heap_alloc2_new w _ _)).trans rfl)) (hf.p x hx) (hf.t x hx) ha ht (Env.keep hE (bstep hb hb'))
 have hmf : ∀ (fn : Fn) (first cap : Array Value) (w : World), (Instr.makeFunc fn first cap).run Tryz.prog w = .ok (.func fn first cap) w := fun _ _ _ _ => rfl
 have HI := Lib.hid hi
 clear hi hL hE hf
 generalize chooseX L a t = v at *
 go_enter Tryz.func25, Tryz.ntmps25
 go_wp2_with (go_at_call 84; refine HI.out.mono ?_; rintro e w2 ⟨rfl, hb2⟩)
 go_ret
 exact ⟨rfl, belB⟩
end Go.Proofs.YtjhlpkhfdghngaaGreatDoor
namespace Go.Proofs.YtjhlpkhfdghngaaGreatDoor
open Go.RowKit Go.Sort
set_option linter.unusedVariables false
set_option linter.unusedSimpArgs false
set_option maxRecDepth 100000
set_option maxHeartbeats 1000000 in
theorem rLetter_any (c : Nat) (w : World) (hc : c < 256) : Calls Tryz.prog 190 #[.int .u8 c] w (Ret w (.bool (isLetN c))) := by
 go_enter Tryz.func190, Tryz.ntmps190
 go_wp2
 all_goals
  go_ret
  exact ⟨ret_bool (by first | (rw [Bool.eq_iff_iff]; simp [isLetN]; done) | (rw [Bool.eq_iff_iff]; simp [isLetN]; omega)), belB⟩
def anyEq (c : Nat) (l : List UInt8) : Bool := l.any fun b => b.toNat == c
theorem byte_int (b : UInt8) (c : Nat) : ((b.toNat : Int) == (c : Int)) = (b.toNat == c) := by
 rw [Bool.eq_iff_iff, beq_iff_eq, beq_iff_eq]; omega
set_option maxHeartbeats 1000000 in
theorem rHas_any (s : ByteArray) (c : Nat) (w : World) (hs : s.size ≤ 4294967281) : Calls Tryz.prog 113 #[.string s, .int .u8 c] w (Ret w (.bool (anyEq c s.data.toList))) := by
 go_enter Tryz.func113, Tryz.ntmps113
 go_wp2
 go_loop [5] (fun i => ∃ k : Nat, i = .int .i64 k ∧ k ≤ s.size ∧ Hid (anyEq c (s.data.toList.take k) = false)) (fun i => s.size - (intOf i).toNat)
 case atStart => exact ⟨0, rfl, Nat.zero_le _, Lib.hid (by simp [anyEq])⟩
 case round =>
  obtain ⟨k, rfl, hk, HK⟩ := hrel
  by_cases hlt : k < s.size
  ·have ht : anyEq c (s.data.toList.take (k + 1)) = (anyEq c (s.data.toList.take k) || (s[k].toNat == c)) := by rw [take_snocB s k hlt]; simp [anyEq]
   have hd := byte_int s[k] c
   cases hb : (s[k].toNat == c)
   ·rw [hb] at ht hd
    have HK2 : Hid (anyEq c (s.data.toList.take (k + 1)) = false) := Lib.hid (by rw [ht, HK.out]; rfl)
    clear ht hb HK
    go_wp2
    go_round
    case rel => exact ⟨k + 1, by go_num, by omega, HK2⟩
    case measure => simp [intOf]; omega
   ·rw [hb] at ht hd
    have HK2 : Hid (anyEq c s.data.toList = true) := Lib.hid (by
     have h2 : anyEq c (s.data.toList.take (k + 1)) = true := by rw [ht, Bool.or_true]
     unfold anyEq at h2 ⊢
     rw [List.any_eq_true] at h2 ⊢
     obtain ⟨x, hx, h3⟩ := h2
     exact ⟨x, List.mem_of_mem_take hx, h3⟩)
    clear ht hb HK
    go_wp2
    go_ret
    exact ⟨ret_bool HK2.out.symm, belB⟩
  ·go_wp2
   go_ret
   refine ⟨ret_bool ?_, belB⟩
   have := HK.out
   rw [List.take_of_length_le (by rw [← Lib.size_eq]; omega)] at this
   exact this.symm
set_option maxHeartbeats 2000000 in
theorem rWord_any (s : ByteArray) (w : World) (hs : s.size ≤ 4294967281) : Calls Tryz.prog 112 #[.string s] w (Ret w (.bool (isWordB s))) := by
 by_cases h0 : s.size = 0
 ·have d0 : ((s.size : Int) == 0) = true := by simp [h0]
  have hv : isWordB s = false := by
   have : s.data.toList = [] := List.eq_nil_of_length_eq_zero (by rw [← Lib.size_eq]; exact h0)
   simp [isWordB, Lib.toList_data, this]
  rw [hv]; clear hv h0
  go_enter Tryz.func112, Tryz.ntmps112
  go_wp2
  go_ret
  exact ⟨rfl, belB⟩
 have d0 : ((s.size : Int) == 0) = false := beq_eq_false_iff_ne.2 (by omega)
 by_cases h1 : s.size ≤ 64
 rotate_left
 ·have d1 : decide ((64 : Int) < (s.size : Int)) = true := decide_eq_true (by omega)
  have hv : isWordB s = false := by simp [isWordB, h1]
  rw [hv]; clear hv
  go_enter Tryz.func112, Tryz.ntmps112
  go_wp2
  go_ret
  exact ⟨rfl, belB⟩
 have d1 : decide ((64 : Int) < (s.size : Int)) = false := decide_eq_false (by omega)
 cases h2 : (s.toList == [46])
 rotate_left
 ·have hv : isWordB s = false := by simp [isWordB, h2]
  rw [hv]; clear hv
  go_enter Tryz.func112, Tryz.ntmps112
  go_wp2
  go_ret
  exact ⟨rfl, belB⟩
 cases h3 : (s.toList == [46, 46])
 rotate_left
 ·have hv : isWordB s = false := by simp [isWordB, h3]
  rw [hv]; clear hv
  go_enter Tryz.func112, Tryz.ntmps112
  go_wp2
  go_ret
  exact ⟨rfl, belB⟩
 have hv : isWordB s = s.data.toList.all letterB := by
  have : s.toList.isEmpty = false := by
   rw [Lib.toList_data]
   cases hl : s.data.toList with
   | nil => rw [Lib.size_eq, hl] at h0; simp at h0
   | cons _ _ => rfl
  simp [isWordB, h2, h3, this, h1]
 rw [hv]; clear hv
 go_enter Tryz.func112, Tryz.ntmps112
 go_wp2
 go_loopw [3] (fun i wr => ∃ k : Nat, i = .int .i64 k ∧ k ≤ s.size ∧ Hid ((s.data.toList.take k).all letterB = true) ∧ Below w.heap.size w wr) (fun i _ => s.size - (intOf i).toNat)
 case atStart => exact ⟨0, rfl, Nat.zero_le _, Lib.hid (by simp), Below.refl _ _⟩
 case round =>
  obtain ⟨k, rfl, hk, HK, hbr⟩ := hrel
  by_cases hlt : k < s.size
  ·have ht : (s.data.toList.take (k + 1)).all letterB = ((s.data.toList.take k).all letterB && letterB s[k]) := by rw [take_snocB s k hlt]; simp
   have cL := fun W => rLetter_any s[k].toNat W (s[k].toNat_lt)
   unfold letterB at ht
   generalize isLetN s[k].toNat = b at *
   cases b
   ·have HK2 : Hid (s.data.toList.all letterB = false) := Lib.hid (by
     have h2 : (s.data.toList.take (k + 1)).all letterB = false := by unfold letterB; rw [ht, Bool.and_false]
     rw [List.all_eq_false] at h2 ⊢
     obtain ⟨x, hx, h3⟩ := h2
     exact ⟨x, List.mem_of_mem_take hx, h3⟩)
    clear ht HK
    have HL := Lib.hid cL
    clear cL
    go_wp2_with (go_at_call 190; refine (HL.out _).mono ?_; rintro e w1 ⟨rfl, hb1⟩)
    go_ret
    exact ⟨ret_bool HK2.out.symm, belB⟩
   ·have HK2 : Hid ((s.data.toList.take (k + 1)).all letterB = true) := Lib.hid (by have := HK.out; unfold letterB at this ⊢; rw [ht, this]; rfl)
    clear ht HK
    have HL := Lib.hid cL
    clear cL
    go_wp2_with (go_at_call 190; refine (HL.out _).mono ?_; rintro e w1 ⟨rfl, hb1⟩)
    exact ⟨⟨k + 1, by go_num, by omega, HK2, belB⟩, by simp [intOf]; omega⟩
  ·go_wp2
   go_ret
   refine ⟨ret_bool ?_, belB⟩
   have := HK.out
   rw [List.take_of_length_le (by rw [← Lib.size_eq]; omega)] at this
   exact this.symm
theorem anyEq_46 (s : ByteArray) : (isWordB s && !anyEq 46 s.data.toList) = isNameB s := by
 unfold isNameB
 congr 2
 rw [Bool.eq_iff_iff, decide_eq_true_eq]
 unfold anyEq
 generalize s.data.toList = l
 induction l with
 | nil => simp [Lib.indexByte]
 | cons b l ih =>
  rw [Lib.indexByte, List.any_cons, Bool.or_eq_true]
  have hb : (b.toNat == 46) = true ↔ (b == 46) = true := by
   rw [beq_iff_eq, beq_iff_eq, ← UInt8.toNat_inj]; rfl
  rw [hb, ih]
  split
  ·simp [*]
  ·split
   ·rename_i h2
    simp only [beq_iff_eq] at h2
    simp [*]
   ·rename_i h1 h2
    simp only [beq_iff_eq] at h2
    have : -1 ≤ Lib.indexByte l 46 := by
     rw [← Lib.index_one]; exact Lib.index_ge _ _
    simp only [h1, false_or, Bool.false_eq_true]
    omega
set_option maxHeartbeats 1000000 in
theorem rName_any (s : ByteArray) (w : World) (hs : s.size ≤ 4294967281) : Calls Tryz.prog 53 #[.string s] w (Ret w (.bool (isNameB s))) := by
 have cW := fun W => rWord_any s W hs
 have cH := fun W => rHas_any s 46 W hs
 rw [← anyEq_46]
 generalize isWordB s = b at *
 generalize anyEq 46 s.data.toList = h at *
 have HH := Lib.hid cH
 have HW := Lib.hid cW
 clear cH cW
 cases b
 ·go_enter Tryz.func53, Tryz.ntmps53
  go_wp2_with (go_at_call 112; refine (HW.out _).mono ?_; rintro e w1 ⟨rfl, hb1⟩)
  go_ret
  exact ⟨rfl, belB⟩
 ·go_enter Tryz.func53, Tryz.ntmps53
  go_wp2_with (first | (go_at_call 112; refine (HW.out _).mono ?_; rintro e w1 ⟨rfl, hb1⟩) | (go_at_call 113; refine (HH.out _).mono ?_; rintro e w2 ⟨rfl, hb2⟩))
  go_ret
  exact ⟨ret_bool (by simp), belB⟩
end Go.Proofs.YtjhlpkhfdghngaaGreatDoor
namespace Go.Proofs.YtjhlpkhfdghngaaGreatDoor
open Go.RowKit Go.Sort
set_option linter.unusedVariables false
set_option linter.unusedSimpArgs false
set_option maxRecDepth 100000
theorem lowAt_step2 (s : ByteArray) (k j : Nat) : lowAt s (k + 1) j = if j = k then (if 65 ≤ lowAt s k k ∧ lowAt s k k ≤ 90 then lowAt s k k + 32 else lowAt s k k) else lowAt s k j := by
 rw [lowAt_step]
 split
 ·split <;> omega
 ·rfl
set_option maxHeartbeats 1000000 in
theorem rSmall_any (s : ByteArray) (w : World) (hs : s.size ≤ 4294967281) : Calls Tryz.prog 280 #[.string s] w (Ret w (.string ⟨(lowL s.data.toList).toArray⟩)) := by
 have hcv := fun W => run_bytes_of_string (P := Tryz.prog) W 9 173 5 s Tryz.underlying9 Tryz.underlying173 Tryz.underlying5
 go_enter Tryz.func280, Tryz.ntmps280
 go_wp2
 clear hcv
 obtain ⟨R, hR⟩ : ∃ R, bytesRow s (grownCap w s.size 0 5) = R := ⟨_, rfl⟩
 obtain ⟨C, hC⟩ : ∃ C, grownCap w s.size 0 5 = C := ⟨_, rfl⟩
 have hrow : ∀ j, j < s.size → R[j]? = some (.int .u8 (lowAt s 0 j)) := by
  intro j hj
  rw [← hR, bytesRow_at _ _ _ hj]
  simp only [lowAt, Nat.not_lt_zero, if_false]
  have hl : j < s.data.toList.length := by rw [← Lib.size_eq]; exact hj
  rw [List.getElem?_eq_getElem hl]
  rfl
 have hRs : s.size ≤ R.size := by rw [← hR]; simp only [bytesRow, Array.size_append, Array.size_map]; exact Nat.le_add_right _ _
 rw [hR, hC]
 clear hR hC
 go_loopw [4] (fun i wr => ∃ (k : Nat) (R' : Array Value), k ≤ s.size ∧ i = .int .i64 k ∧ Blk wr w.heap.size 5 R' (R.size, R.size + 1) ∧ (∀ j, j < s.size → R'[j]? = some (.int .u8 (lowAt s k j))) ∧ Below w.heap.size w wr) (fun i _ => s.size - (intOf i).toNat)
 case atStart => exact ⟨0, R, by omega, rfl, heap_alloc_new w _, hrow, belB⟩
 case round =>
  obtain ⟨k, R', hk, rfl, hB, hr, hb⟩ := hrel
  have H := Lib.hid hr
  clear hr hrow
  by_cases hlt : k < s.size
  ·have hcell : wr.cell? ⟨w.heap.size, k, none⟩ = some (.int .u8 (lowAt s k k)) := by rw [hB.cell]; exact H.out k hlt
   have hfree := hB.free k (by simp; omega)
   have hbd := lowAt_bd s k k
   go_wp2
   ·refine ⟨⟨k + 1, _, by omega, by go_num, hB.set_ k _, fun j hj => ?_, belB⟩, by simp [intOf]; omega⟩
    rw [Array.getElem?_setIfInBounds, lowAt_step2]
    have hkR : k < R'.size := by
     have := H.out k hlt
     exact (Array.getElem?_eq_some_iff.1 this).1
    by_cases e : k = j
    ·subst e
     rw [if_pos rfl, if_pos hkR, if_pos rfl, if_pos ⟨by assumption, by assumption⟩]
    ·rw [if_neg e, if_neg (Ne.symm e)]
     exact H.out j hj
   all_goals
    refine ⟨⟨k + 1, _, by omega, by go_num, hB, fun j hj => ?_, hb⟩, by simp [intOf]; omega⟩
    rw [H.out j hj, lowAt_step2]
    by_cases e : j = k
    ·subst e
     rw [if_pos rfl, if_neg (by omega)]
    ·rw [if_neg e]
  ·obtain rfl : k = s.size := by omega
   have hback : ∀ c, (convert 173 9 (.slice (some ⟨w.heap.size, 0, none⟩) s.size c)).run Tryz.prog wr = .ok (.string ⟨(lowL s.data.toList).toArray⟩) wr := fun c =>
    run_back wr 173 9 5 ⟨w.heap.size, 0, none⟩ s.size c (lowL s.data.toList) (by simp [lowL]) Tryz.underlying173 Tryz.underlying5 Tryz.underlying9 (fun j hj => by
     have hj' : j < s.size := by rw [Lib.size_eq]; simpa [lowL] using hj
     have e : (⟨w.heap.size, 0, none⟩ : Addr).add j = ⟨w.heap.size, j, none⟩ := by unfold Addr.add; split <;> simp_all
     rw [e, hB.cell, H.out j hj', lowAt_end s j hj])
   go_wp2
   go_ret
   exact ⟨rfl, hb⟩
theorem at_split (l : List UInt8) (k : Nat) (hk : k < l.length) : l = l.take k ++ l[k] :: l.drop (k + 1) := by
 rw [← List.drop_eq_getElem_cons hk, List.take_append_drop]
theorem byte_at (s : ByteArray) (k : Nat) (h : k < s.size) : s[k] = s.data.toList[k]'(by rw [← Lib.size_eq]; exact h) := by simp; rfl
def cutV (s : ByteArray) (c : UInt8) : Value := .tuple #[.string (toB (Lib.cut s.data.toList [c]).1), .string (toB (Lib.cut s.data.toList [c]).2.1), .bool (Lib.cut s.data.toList [c]).2.2]
set_option maxHeartbeats 2000000 in
theorem rCut_any (s : ByteArray) (c : UInt8) (w : World) (hs : s.size ≤ 4294967281) : Calls Tryz.prog 279 #[.string s, .int .u8 c.toNat] w (Ret w (cutV s c)) := by
 go_enter Tryz.func279, Tryz.ntmps279
 go_wp2
 go_loopw [7] (fun i wr => ∃ k : Nat, i = .int .i64 k ∧ k ≤ s.size ∧ Hid (c ∉ s.data.toList.take k) ∧ Below w.heap.size w wr) (fun i _ => s.size - (intOf i).toNat)
 case atStart => exact ⟨0, rfl, Nat.zero_le _, Lib.hid (by simp), Below.refl _ _⟩
 case round =>
  obtain ⟨k, rfl, hk, HK, hbr⟩ := hrel
  by_cases hlt : k < s.size
  ·have hd := byte_int s[k] c.toNat
   have hkl : k < s.data.toList.length := by rw [← Lib.size_eq]; exact hlt
   have hat := byte_at s k hlt
   cases hb : (s[k].toNat == c.toNat)
   ·rw [hb] at hd
    have hne : s[k] ≠ c := fun e => by rw [e] at hb; simp at hb
    have HK2 : Hid (c ∉ s.data.toList.take (k + 1)) := Lib.hid (by
     rw [take_snocB s k hlt]
     simp only [List.mem_append, List.mem_singleton, not_or]
     exact ⟨HK.out, fun e => hne e.symm⟩)
    clear hb HK hat hne
    go_wp2
    exact ⟨⟨k + 1, by go_num, by omega, HK2, hbr⟩, by simp [intOf]; omega⟩
   ·rw [hb] at hd
    have he : s[k] = c := by rw [beq_iff_eq] at hb; exact UInt8.toNat_inj.1 hb
    have hv : cutV s c = .tuple #[.string (s.extract 0 k), .string (s.extract (k + 1) s.size), .bool true] := by
     have h1 := at_split s.data.toList k hkl
     rw [← hat, he] at h1
     have h2 : Lib.cut s.data.toList [c] = (s.data.toList.take k, s.data.toList.drop (k + 1), true) := by
      conv => lhs; rw [h1]
      exact cut_hit _ _ _ HK.out
     unfold cutV
     rw [h2]
     have e1 : toB (s.data.toList.take k) = s.extract 0 k := bytes_ext (by rw [Lib.extract_data]; simp [toB])
     have e2 : toB (s.data.toList.drop (k + 1)) = s.extract (k + 1) s.size := bytes_ext (by rw [Lib.extract_to_end]; rfl)
     rw [e1, e2]
    have HV := Lib.hid hv
    have hk0 : (0 : Int) ≤ (k : Int) := by omega
    have hk1 : (k : Int) + 1 ≤ (s.size : Int) := by omega
    have hk2 : (k : Int) ≤ (s.size : Int) := by omega
    clear hb HK hat he hv
    go_wp2_with fail
    go_quiet (fail)
    go_wp2
    go_ret3
    rw [HV.out]
    exact ⟨rfl, belB⟩
  ·have hv : cutV s c = .tuple #[.string s, .string ⟨#[]⟩, .bool false] := by
    have h1 := HK.out
    rw [List.take_of_length_le (by rw [← Lib.size_eq]; omega)] at h1
    unfold cutV
    rw [cut_none _ _ h1]
    rfl
   have HV := Lib.hid hv
   clear hv HK
   go_wp2
   go_ret3
   rw [HV.out]
   exact ⟨rfl, belB⟩
end Go.Proofs.YtjhlpkhfdghngaaGreatDoor
namespace Go.Proofs.YtjhlpkhfdghngaaGreatDoor
open Go.RowKit Go.Sort
set_option linter.unusedVariables false
set_option linter.unusedSimpArgs false
set_option maxRecDepth 100000
def SplitI (c : UInt8) (l : List UInt8) (k f : Nat) (acc : List ByteArray) : Prop := f ≤ k ∧ c ∉ (l.drop f).take (k - f) ∧ (splitL c l).map toB = acc ++ (splitL c (l.drop f)).map toB
theorem splitI_step {c : UInt8} {l : List UInt8} {k f : Nat} {acc : List ByteArray} (h : SplitI c l k f acc) (hk : k < l.length) (hne : l[k] ≠ c) : SplitI c l (k + 1) f acc := by
 obtain ⟨h1, h2, h3⟩ := h
 refine ⟨by omega, ?_, h3⟩
 have hl : k - f < (l.drop f).length := by rw [List.length_drop]; omega
 rw [show k + 1 - f = (k - f) + 1 by omega, List.take_succ_eq_append_getElem hl]
 simp only [List.mem_append, List.mem_singleton, not_or]
 refine ⟨h2, ?_⟩
 rw [List.getElem_drop]
 intro e
 apply hne
 rw [e]
 congr 1
 omega
theorem splitI_hit {c : UInt8} {l : List UInt8} {k f : Nat} {acc : List ByteArray} (h : SplitI c l k f acc) (hk : k < l.length) (he : l[k] = c) : SplitI c l (k + 1) (k + 1) (acc ++ [toB ((l.drop f).take (k - f))]) := by
 obtain ⟨h1, h2, h3⟩ := h
 refine ⟨Nat.le_refl _, by simp, ?_⟩
 have hl : k - f < (l.drop f).length := by rw [List.length_drop]; omega
 have hs := at_split (l.drop f) (k - f) hl
 have e1 : (l.drop f)[k - f] = c := by
  rw [List.getElem_drop, ← he]
  congr 1
  omega
 rw [e1, List.drop_drop, show f + (k - f + 1) = k + 1 by omega] at hs
 have hsp : splitL c (l.drop f) = (l.drop f).take (k - f) :: splitL c (l.drop (k + 1)) := by
  conv => lhs; rw [hs]
  exact split_hit _ _ _ h2
 rw [h3, hsp]
 simp
theorem splitI_end {c : UInt8} {l : List UInt8} {f : Nat} {acc : List ByteArray} (h : SplitI c l l.length f acc) : (splitL c l).map toB = acc ++ [toB (l.drop f)] := by
 obtain ⟨h1, h2, h3⟩ := h
 rw [List.take_of_length_le (by rw [List.length_drop]; omega)] at h2
 rw [h3, split_none _ _ h2]
 rfl
theorem splitB_eq (c : UInt8) (s : ByteArray) : splitB c s = (splitL c s.data.toList).map toB := rfl
set_option maxHeartbeats 2000000 in
theorem rSplit_any (s : ByteArray) (c : UInt8) (w : World) (hs : s.size ≤ 4294967281) : Calls Tryz.prog 178 #[.string s, .int .u8 c.toNat] w (OwnPost (splitB c s) w) := by
 obtain ⟨i0, hi0, hz0, hz1, hz2⟩ := info_parts infoStr
 have HI : Hid ((Tryz.prog.info? 9 = some i0) ∧ i0.zero = some (.string ⟨#[]⟩) ∧ i0.size = 1 ∧ i0.bytes = 16) := Lib.hid ⟨hi0, hz0, hz1, hz2⟩
 clear hi0 hz0 hz1 hz2
 have hsl : s.data.toList.length = s.size := (Lib.size_eq s).symm
 have HSL := Lib.hid hsl
 clear hsl
 go_enter Tryz.func178, Tryz.ntmps178
 go_wp2
 go_loopw [5, 6, 7] (fun vo vf vi wr => ∃ (k f n : Nat) (acc : List ByteArray) (A : Option Addr) (c' : Nat), (vi = .int .i64 k ∧ vf = .int .i64 f ∧ vo = .slice A n c' ∧ k ≤ s.size ∧ f ≤ k ∧ n ≤ k) ∧ Hid (SplitI c s.data.toList k f acc ∧ acc.length = n) ∧ wr.ownsRow w.heap.size 9 1 (.slice A n c') n (acc.map .string) ∧ Below w.heap.size w wr) (fun _ _ i _ => s.size - (intOf i).toNat)
 case atStart => exact ⟨0, 0, 0, [], none, 0, ⟨rfl, rfl, rfl, Nat.zero_le _, Nat.le_refl _, Nat.le_refl _⟩, Lib.hid ⟨⟨Nat.le_refl _, by simp, by simp⟩, rfl⟩, World.ownsRow_nil _ _ _ _, Below.refl _ _⟩
 case round =>
  obtain ⟨k, f, n, acc, A, c', ⟨rfl, rfl, rfl, hk, hf, hn⟩, HK, hown, hbr⟩ := hrel
  have hbs := hbr.size
  by_cases hlt : k < s.size
  ·have hd := byte_int s[k] c.toNat
   have hkl : k < s.data.toList.length := by rw [HSL.out]; exact hlt
   have hat := byte_at s k hlt
   cases hb : (s[k].toNat == c.toNat)
   ·rw [hb] at hd
    have hne : s.data.toList[k] ≠ c := fun e => by rw [← hat] at e; rw [e] at hb; simp at hb
    have HK2 : Hid (SplitI c s.data.toList (k + 1) f acc ∧ acc.length = n) := Lib.hid ⟨splitI_step HK.out.1 hkl hne, HK.out.2⟩
    clear hb HK hat hne hkl
    go_wp2
    exact ⟨⟨k + 1, f, n, acc, A, c', ⟨by go_num, rfl, rfl, by omega, by omega, by omega⟩, HK2, hown, hbr⟩, by simp [intOf]; omega⟩
   ·rw [hb] at hd
    have he : s.data.toList[k] = c := by rw [← hat]; rw [beq_iff_eq] at hb; exact UInt8.toNat_inj.1 hb
    have hpc : toB ((s.data.toList.drop f).take (k - f)) = s.extract f k := bytes_ext (by rw [Lib.extract_data]; rfl)
    have hhit := splitI_hit HK.out.1 hkl he
    rw [hpc] at hhit
    have HK2 : Hid (SplitI c s.data.toList (k + 1) (k + 1) (acc ++ [s.extract f k]) ∧ (acc ++ [s.extract f k]).length = n + 1) := Lib.hid ⟨hhit, by simp [HK.out.2]⟩
    have hk0 : (0 : Int) ≤ (f : Int) := by omega
    have hk1 : (f : Int) ≤ (k : Int) := by omega
    have hk2 : (k : Int) ≤ (s.size : Int) := by omega
    clear hb HK hat he hkl hpc hhit
    go_wp2_with (at_builtin; refine wpList_append_own _ rfl _ _ 27 rfl w.heap.size 9 i0 (.string ⟨#[]⟩) 1 16 Tryz.underlying27 HI.out.1 HI.out.2.1 HI.out.2.2.1 HI.out.2.2.2 rfl (by decide) _ _ _ rfl (hown.alloc _) ⟨wr.heap.size, 0, none⟩ 1 1 [.string (s.extract f k)] rfl rfl (cell_one_new _ _ _) (by simp [Value.oneCell']) (by unfold maxLen; omega) (by omega) (by simp; omega) ?_; intro v' w3 hown' hgrow _; obtain ⟨g', cap', rfl⟩ := ownsRow_succ hown')
    exact ⟨⟨k + 1, k + 1, n + 1, acc ++ [s.extract f k], some ⟨g', 0, none⟩, cap', ⟨by go_num, by go_num, rfl, by omega, by omega, by omega⟩, HK2, by rw [List.map_append]; exact hown', (hbr.alloc hbs _).grown hgrow (by simp; omega) (fun r e => ownsRow_block hown r e)⟩, by simp [intOf]; omega⟩
  ·obtain rfl : k = s.size := by omega
   have hpc : toB (s.data.toList.drop f) = s.extract f s.size := bytes_ext (by rw [Lib.extract_to_end]; rfl)
   have hend : splitB c s = acc ++ [s.extract f s.size] := by
    rw [splitB_eq, ← hpc]
    exact splitI_end (by rw [HSL.out]; exact HK.out.1)
   have hlen : (splitB c s).length = n + 1 := by rw [hend]; simp [HK.out.2]
   have HEND := Lib.hid hend
   have HLEN := Lib.hid hlen
   have hk0 : (0 : Int) ≤ (f : Int) := by omega
   have hk1 : (f : Int) ≤ (s.size : Int) := by omega
   clear hpc hend hlen HK
   go_wp2_with (at_builtin; refine wpList_append_own _ rfl _ _ 27 rfl w.heap.size 9 i0 (.string ⟨#[]⟩) 1 16 Tryz.underlying27 HI.out.1 HI.out.2.1 HI.out.2.2.1 HI.out.2.2.2 rfl (by decide) _ _ _ rfl (hown.alloc _) ⟨wr.heap.size, 0, none⟩ 1 1 [.string (s.extract f s.size)] rfl rfl (cell_one_new _ _ _) (by simp [Value.oneCell']) (by unfold maxLen; omega) (by omega) (by simp; omega) ?_; intro v' w3 hown' hgrow _; obtain ⟨g', cap', rfl⟩ := ownsRow_succ hown')
   go_ret
   refine ⟨some ⟨g', 0, none⟩, cap', by rw [HLEN.out]; rfl, ?_, (hbr.alloc hbs _).grown hgrow (by simp; omega) (fun r e => ownsRow_block hown r e)⟩
   rw [HLEN.out, HEND.out, List.map_append]
   exact hown'
def Boxed3 (w : World) (g : Nat) (c : ByteArray) (P : Option Addr) (np cp : Nat) (Q : Option Addr) (nq cq : Nat) : Prop := Blk w g 117 #[.string c, .slice P np cp, .slice Q nq cq] (0, 0)
theorem pathK_add (c : ByteArray) (xs : List ByteArray) (k : Nat) (x : ByteArray) (h : xs[k]? = some x) : toB (pathK c xs k) ++ ⟨#[47]⟩ ++ x = toB (pathK c xs (k + 1)) := by
 rw [pathK_succ c xs k x h]
 exact bytes_ext (by simp [toB])
theorem queryK_add (c : ByteArray) (xs : List ByteArray) (qs : List (ByteArray × ByteArray)) (k : Nat) (q : ByteArray × ByteArray) (h : qs[k]? = some q) : toB (queryK c xs qs k) ++ sepK k ++ q.1 ++ ⟨#[61]⟩ ++ q.2 = toB (queryK c xs qs (k + 1)) := by
 rw [queryK_succ c xs qs k q h]
 exact bytes_ext (by simp [toB])
set_option maxHeartbeats 4000000 in
theorem rText_any (c : ByteArray) (P Q : Option Addr) (np cp nq cq : Nat) (xs : List ByteArray) (qs : List (ByteArray × ByteArray)) (w : World) (hP : Reads w 1 P np (xs.map .string)) (hQ : Reads w 2 Q nq (pairCells qs)) (htot : (W06 c xs qs).length ≤ 1000000000) :
  Calls Tryz.prog 284 #[.agg #[.string c, .slice P np cp, .slice Q nq cq]] w (Ret w (.string (toB (W06 c xs qs)))) := by
 have hnp : xs.length = np := by have := hP.1; simp at this; omega
 have hnq : qs.length = nq := by have := hQ.1; rw [pairCells_length] at this; omega
 have hc0 : toB (pathK c xs 0) = c := by simp [pathK, pathL, toB]
 have hend1 := pathK_all c xs qs np (by omega)
 have hend2 := queryK_all c xs qs nq (by omega)
 have HP := Lib.hid hP; have HQ := Lib.hid hQ; have HNP := Lib.hid hnp; have HNQ := Lib.hid hnq; have HC0 := Lib.hid hc0; have HE1 := Lib.hid hend1; have HE2 := Lib.hid hend2; have HT := Lib.hid htot
 have hnp9 : np ≤ 1000000000 := by
  have := pathL_len (lists xs)
  simp only [W06, writeL, List.length_append] at htot
  simp only [lists, List.length_map] at this htot
  omega
 have hnq9 : nq ≤ 1000000000 := by
  have := queryL_len 63 (lists2 qs)
  simp only [W06, writeL, List.length_append] at htot
  simp only [lists2, List.length_map] at this htot
  omega
 clear hP hQ hnp hnq hc0 hend1 hend2 htot
 go_enter Tryz.func284, Tryz.ntmps284
 go_wp2
 have hX0 : Boxed3 (w.alloc (.cells #[.string c, .slice P np cp, .slice Q nq cq] 117)) w.heap.size c P np cp Q nq cq := World.alloc_heap_new _ _
 go_loopw [3, 4] (fun vs vi wr => ∃ k : Nat, vi = .int .i64 k ∧ k ≤ np ∧ vs = .string (toB (pathK c xs k)) ∧ Boxed3 wr w.heap.size c P np cp Q nq cq ∧ Below w.heap.size w wr) (fun _ i _ => np - (intOf i).toNat)
 case atStart => exact ⟨0, rfl, Nat.zero_le _, by rw [HC0.out], hX0, balloc (Below.refl _ _) _⟩
 case round =>
  clear hX0
  obtain ⟨k, rfl, hk, rfl, hX, hbr⟩ := hrel
  have x1 : wr.cell? ⟨w.heap.size, 1, none⟩ = some (.slice P np cp) := Blk.cell hX 1
  have x2 : wr.cell? ⟨w.heap.size, 2, none⟩ = some (.slice Q nq cq) := Blk.cell hX 2
  by_cases hlt : k < np
  ·obtain ⟨x, hx⟩ : ∃ x, xs[k]? = some x := ⟨_, List.getElem?_eq_getElem (by have := HNP.out; omega)⟩
   obtain ⟨b, o, rfl, hcell⟩ := (HP.out.keep hbr).2 (by omega)
   have hc1 : wr.cell? ⟨b, o + k, none⟩ = some (.string x) := hcell k _ (by simp [hx])
   have HS := Lib.hid (pathK_add c xs k x hx)
   have hz1 : (toB (pathK c xs k)).size ≤ 1000000000 := by rw [toB_size]; have := pathK_le c xs qs k; have := HT.out; omega
   have hz2 : x.size ≤ 1000000000 := by have := W06_x c xs qs x (List.mem_of_getElem? hx); have := HT.out; omega
   generalize toB (pathK c xs k) = S at *
   clear hcell hx
   go_wp2
   exact ⟨⟨k + 1, by go_num, by omega, congrArg Value.string HS.out, hX, hbr⟩, by simp [intOf]; omega⟩
  ·obtain rfl : k = np := by omega
   have he := HE1.out
   rw [he]
   clear he HE1
   go_wp2
   clear x1 x2
   obtain ⟨wo, rfl⟩ : ∃ wo : World, wo = wr := ⟨_, rfl⟩
   go_loopw [3, 5] (fun vs vi wz => ∃ j : Nat, vi = .int .i64 j ∧ j ≤ nq ∧ vs = .string (toB (queryK c xs qs j)) ∧ Boxed3 wz w.heap.size c P k cp Q nq cq ∧ Below w.heap.size w wz) (fun _ i _ => nq - (intOf i).toNat)
   case atStart => exact ⟨0, rfl, Nat.zero_le _, rfl, hX, hbr⟩
   case round =>
    clear hX hbr
    obtain ⟨j, rfl, hj, rfl, hX, hbr⟩ := hrel
    have x2 : wr.cell? ⟨w.heap.size, 2, none⟩ = some (.slice Q nq cq) := Blk.cell hX 2
    by_cases hlt2 : j < nq
    ·obtain ⟨q, hq⟩ : ∃ q, qs[j]? = some q := ⟨_, List.getElem?_eq_getElem (by have := HNQ.out; omega)⟩
     obtain ⟨b, o, rfl, hcell⟩ := (HQ.out.keep hbr).2 (by omega)
     obtain ⟨e1, e2⟩ := pairCells_at qs j q hq
     have hc1 : wr.cell? ⟨b, o + j * 2, none⟩ = _ := hcell _ _ e1
     have hc2 : wr.cell? ⟨b, o + j * 2 + 1, none⟩ = _ := hcell _ _ e2
     have hadd := queryK_add c xs qs j q hq
     have hz1 : (toB (queryK c xs qs j)).size ≤ 1000000000 := by rw [toB_size]; have := queryK_le c xs qs j; have := HT.out; omega
     have hz2 : q.1.size ≤ 1000000000 ∧ q.2.size ≤ 1000000000 := by have := W06_q c xs qs q (List.mem_of_getElem? hq); have := HT.out; omega
     obtain ⟨hz2, hz3⟩ := hz2
     obtain ⟨qk, qv⟩ := q
     dsimp only at hc1 hc2 hadd hz2 hz3
     have hj0 : (0 : Int) ≤ (j : Int) := by omega
     have hj1 : (j : Int) < (nq : Int) := by omega
     clear hcell hq e1 e2
     by_cases h0 : j = 0
     ·subst h0
      simp only [Nat.zero_mul, Nat.add_zero] at hc1 hc2
      have HS : Hid (toB (queryK c xs qs 0) ++ ⟨#[63]⟩ ++ qk ++ ⟨#[61]⟩ ++ qv = toB (queryK c xs qs (0 + 1))) := Lib.hid hadd
      generalize toB (queryK c xs qs 0) = S at *
      clear hadd
      go_wp2_with fail
      have n1 : ¬ 9223372036854775807 < S.size + 1 := by omega
      have n2 : ¬ 9223372036854775807 < S.size + 1 + qk.size := by omega
      have n3 : ¬ 9223372036854775807 < S.size + 1 + qk.size + 1 := by omega
      have n4 : ¬ 9223372036854775807 < S.size + 1 + qk.size + 1 + qv.size := by omega
      go_quiet (fail)
      go_wp2
      exact ⟨⟨1, by go_num, by omega, congrArg Value.string HS.out, Blk.keep hX belB, belB⟩, by simp [intOf]; omega⟩
     ·have HS : Hid (toB (queryK c xs qs j) ++ ⟨#[38]⟩ ++ qk ++ ⟨#[61]⟩ ++ qv = toB (queryK c xs qs (j + 1))) := Lib.hid (by simpa [sepK, h0] using hadd)
      have hd : ((j : Int) == 0) = false := beq_eq_false_iff_ne.2 (by omega)
      generalize toB (queryK c xs qs j) = S at *
      clear hadd
      go_wp2_with fail
      have n1 : ¬ 9223372036854775807 < S.size + 1 := by omega
      have n2 : ¬ 9223372036854775807 < S.size + 1 + qk.size := by omega
      have n3 : ¬ 9223372036854775807 < S.size + 1 + qk.size + 1 := by omega
      have n4 : ¬ 9223372036854775807 < S.size + 1 + qk.size + 1 + qv.size := by omega
      go_quiet (fail)
      go_wp2
      exact ⟨⟨j + 1, by go_num, by omega, congrArg Value.string HS.out, Blk.keep hX belB, belB⟩, by simp [intOf]; omega⟩
    ·obtain rfl : j = nq := by omega
     have he := HE2.out
     rw [he]
     go_wp2
     go_ret
     exact ⟨rfl, hbr⟩
end Go.Proofs.YtjhlpkhfdghngaaGreatDoor
namespace Go.Proofs.YtjhlpkhfdghngaaGreatDoor
open Go.RowKit Go.Sort
set_option linter.unusedVariables false
set_option linter.unusedSimpArgs false
set_option maxRecDepth 100000
def leS (s x : ByteArray) : Bool := Op.bytesLess s.toList x.toList || s.toList == x.toList
theorem foldl_take {α β : Type} (f : β → α → β) (b : β) {l : List α} {k : Nat} {x : α} (hx : l[k]? = some x) : (l.take (k + 1)).foldl f b = f ((l.take k).foldl f b) x := by
 rw [List.take_add_one, hx]; simp
end Go.Proofs.YtjhlpkhfdghngaaGreatDoor
namespace Go.Proofs.YtjhlpkhfdghngaaGreatDoor
open Go.RowKit Go.Sort
set_option linter.unusedVariables false
set_option linter.unusedSimpArgs false
set_option maxRecDepth 100000
theorem leS_iff (s x : ByteArray) : leS s x = true ↔ s.data.toList ≤ x.data.toList := by
 have h := key_less s x
 unfold leS
 rw [← List.not_lt]
 constructor
 ·intro h1 h2
  rw [h1] at h
  simp [h2] at h
 ·intro h1
  cases hb : (Op.bytesLess s.toList x.toList || s.toList == x.toList)
  ·rw [hb] at h
   exact absurd (by simpa using h) h1
  ·rfl
theorem ne_iff (s x : ByteArray) : (x.toList != s.toList) = true ↔ x.data.toList ≠ s.data.toList := by
 rw [Lib.toList_data, Lib.toList_data]; simp
end Go.Proofs.YtjhlpkhfdghngaaGreatDoor
namespace Go.Proofs.YtjhlpkhfdghngaaGreatDoor
open Go.RowKit Go.Sort
set_option linter.unusedVariables false
set_option linter.unusedSimpArgs false
set_option maxRecDepth 100000
abbrev BP := ByteArray × ByteArray
def putA (p : BP) (st : List BP × Bool) (x : BP) : List BP × Bool := if !st.2 && leS p.1 x.1 then (st.1 ++ [p], true) else st
def putSt (p : BP) (st : List BP × Bool) (x : BP) : List BP × Bool := if x.1.toList != p.1.toList then ((putA p st x).1 ++ [x], (putA p st x).2) else putA p st x
def putB (l : List BP) (p : BP) : List BP := if (l.foldl (putSt p) ([], false)).2 then (l.foldl (putSt p) ([], false)).1 else (l.foldl (putSt p) ([], false)).1 ++ [p]
def putP (p : BP) : List BP → List BP
 | [] => [p]
 | x :: l => if leS p.1 x.1 then p :: (x :: l).filter (fun y => y.1.toList != p.1.toList) else x :: putP p l
theorem put_true (p : BP) : ∀ (l acc : List BP), l.foldl (putSt p) (acc, true) = (acc ++ l.filter (fun y => y.1.toList != p.1.toList), true)
 | [], acc => by simp
 | x :: l, acc => by
  rw [List.foldl_cons]
  have e : putA p (acc, true) x = (acc, true) := by simp [putA]
  cases hne : (x.1.toList != p.1.toList)
  ·rw [show putSt p (acc, true) x = (acc, true) by simp only [putSt, hne, e]; rfl, put_true p l acc, List.filter_cons, if_neg (by rw [hne]; decide)]
  ·rw [show putSt p (acc, true) x = (acc ++ [x], true) by simp only [putSt, hne, e]; rfl, put_true p l (acc ++ [x]), List.filter_cons, if_pos hne]
   simp
theorem put_false (p : BP) : ∀ (l acc : List BP), (if (l.foldl (putSt p) (acc, false)).2 then (l.foldl (putSt p) (acc, false)).1 else (l.foldl (putSt p) (acc, false)).1 ++ [p]) = acc ++ putP p l
 | [], acc => by simp [putP]
 | x :: l, acc => by
  rw [List.foldl_cons]
  cases hle : leS p.1 x.1
  ·have e : putA p (acc, false) x = (acc, false) := by simp [putA, hle]
   have hne : (x.1.toList != p.1.toList) = true := by
    rw [ne_iff]
    intro h
    have : leS p.1 x.1 = true := (leS_iff _ _).2 (by rw [h]; exact List.le_refl _)
    rw [hle] at this; cases this
   rw [show putSt p (acc, false) x = (acc ++ [x], false) by simp only [putSt, hne, e]; rfl, put_false p l (acc ++ [x]), putP, hle]
   simp
  ·have e : putA p (acc, false) x = (acc ++ [p], true) := by simp [putA, hle]
   have hp : putP p (x :: l) = p :: (x :: l).filter (fun y => y.1.toList != p.1.toList) := by rw [putP, if_pos hle]
   cases hne : (x.1.toList != p.1.toList)
   ·rw [show putSt p (acc, false) x = (acc ++ [p], true) by simp only [putSt, hne, e]; rfl, hp, put_true]
    have hf : (x :: l).filter (fun y => y.1.toList != p.1.toList) = l.filter (fun y => y.1.toList != p.1.toList) := by rw [List.filter_cons, if_neg (by rw [hne]; decide)]
    rw [hf]
    simp
   ·rw [show putSt p (acc, false) x = (acc ++ [p] ++ [x], true) by simp only [putSt, hne, e]; rfl, hp, put_true]
    have hf : (x :: l).filter (fun y => y.1.toList != p.1.toList) = x :: l.filter (fun y => y.1.toList != p.1.toList) := by rw [List.filter_cons, if_pos hne]
    rw [hf]
    simp
theorem putB_eq (l : List BP) (p : BP) : putB l p = putP p l := by
 have := put_false p l []
 unfold putB
 rw [this]; rfl
theorem putP_ins (p : BP) : ∀ l : List BP, SortedK (lists2 l) → lists2 (putP p l) = insL (lists2 l) (p.1.data.toList, p.2.data.toList)
 | [], _ => rfl
 | x :: l, h => by
  have h' := List.pairwise_cons.1 (show SortedK ((x.1.data.toList, x.2.data.toList) :: lists2 l) from h)
  have hf : p.1.data.toList ≤ x.1.data.toList → l.filter (fun y => y.1.toList != p.1.toList) = l := fun hle => by
   refine List.filter_eq_self.2 fun y hy => (ne_iff _ _).2 fun e => ?_
   have := h'.1 (y.1.data.toList, y.2.data.toList) (List.mem_map_of_mem hy)
   dsimp only at this
   rw [e] at this
   exact List.not_lt.2 hle this
  unfold putP
  show _ = insL ((x.1.data.toList, x.2.data.toList) :: lists2 l) _
  rw [insL]
  by_cases e : p.1.data.toList = x.1.data.toList
  ·have hle : p.1.data.toList ≤ x.1.data.toList := by rw [e]; exact List.le_refl _
   have hx : ¬ (x.1.toList != p.1.toList) = true := by rw [ne_iff]; exact fun h => h e.symm
   rw [if_pos ((leS_iff _ _).2 hle), if_pos e, List.filter_cons, if_neg hx, hf hle]
   rfl
  ·by_cases e2 : p.1.data.toList < x.1.data.toList
   ·have hle := List.le_of_lt e2
    have hx : (x.1.toList != p.1.toList) = true := by rw [ne_iff]; exact fun h => e h.symm
    rw [if_pos ((leS_iff _ _).2 hle), if_neg e, if_pos e2, List.filter_cons, if_pos hx, hf hle]
    rfl
   ·rw [if_neg (fun h => e2 (lt_of_le_ne' ((leS_iff _ _).1 h) e)), if_neg e, if_neg e2]
    show _ :: lists2 (putP p l) = _
    rw [putP_ins p l h'.2]
theorem putB_sorted {l : List BP} {a : List (BL × BL)} (h : lists2 l = pairsL a) (q : BL × BL) : lists2 (putB l (toB q.1, toB q.2)) = pairsL (a ++ [q]) := by
 rw [putB_eq, putP_ins _ _ (by rw [h]; exact (good_pairs a).2.2.1), h]
 simp [pairsL, toB]
def qRef : List BP → List ByteArray → Option (List BP)
 | acc, [] => some acc
 | acc, p :: r => match parsePair p with
  | none => none
  | some q => qRef (putB acc (toB q.1, toB q.2)) r
theorem qRef_eq : ∀ (ps : List ByteArray) (acc : List BP) (a : List (BL × BL)), lists2 acc = pairsL a → (qRef acc ps).map lists2 = (qAcc a ps).map pairsL
 | [], acc, a, h => by simp [qRef, qAcc, h]
 | p :: r, acc, a, h => by
  rw [qRef, qAcc]
  cases parsePair p with
  | none => rfl
  | some q => exact qRef_eq r _ _ (putB_sorted h q)
theorem lists2_back (l : List BP) : (lists2 l).map (fun q => (toB q.1, toB q.2)) = l := by
 simp [lists2, Function.comp_def, toB_data]
theorem pairsB_ref (s : ByteArray) : pairsB s = if s.toList.isEmpty then some [] else qRef [] (splitB 38 s) := by
 unfold pairsB
 split
 ·rfl
 ·have h := qRef_eq (splitB 38 s) [] [] rfl
  have h2 := congrArg (Option.map fun l : List (BL × BL) => l.map fun q => (toB q.1, toB q.2)) h
  rw [Option.map_map, Option.map_map] at h2
  have e : (fun l : List (BL × BL) => l.map fun q => (toB q.1, toB q.2)) ∘ lists2 = id := funext lists2_back
  rw [e, Option.map_id] at h2
  exact h2.symm
theorem at_first (c : UInt8) : ∀ l : BL, c ∈ l → ∃ a b, l = a ++ c :: b ∧ c ∉ a
 | [], h => by simp at h
 | x :: l, h => by
  by_cases e : x = c
  ·subst e; exact ⟨[], l, rfl, by simp⟩
  ·rcases List.mem_cons.1 h with h | h
   ·exact absurd h.symm e
   ·obtain ⟨a, b, h1, h2⟩ := at_first c l h
    exact ⟨x :: a, b, by rw [h1]; rfl, by simp [h2]; exact fun e2 => e e2.symm⟩
theorem split_cut (c : UInt8) (t : BL) : splitL c t = (Lib.cut t [c]).1 :: (if (Lib.cut t [c]).2.2 then splitL c (Lib.cut t [c]).2.1 else []) := by
 by_cases h : c ∈ t
 ·obtain ⟨a, b, rfl, hna⟩ := at_first c t h
  rw [cut_hit a b c hna, split_hit a b c hna]
  rfl
 ·rw [cut_none t c h, split_none t c h]
  rfl
def stemB (s : ByteArray) : ByteArray := toB (Lib.trimSuffix (leftL s).1 [47])
theorem stem_split (s : ByteArray) : ∃ r, splitB 47 (stemB s) = toB (custL s).1 :: r ∧ pathB (custL s) = resB [] r := by
 refine ⟨if (custL s).2.2 then splitB 47 (toB (custL s).2.1) else [], ?_, ?_⟩
 ·unfold splitB stemB
  rw [show (toB (Lib.trimSuffix (leftL s).1 [47])).data.toList = Lib.trimSuffix (leftL s).1 [47] from rfl, split_cut]
  unfold custL
  rw [List.map_cons]
  congr 1
  split <;> rfl
 ·unfold pathB
  split <;> rfl
end Go.Proofs.YtjhlpkhfdghngaaGreatDoor
namespace Go.Proofs.YtjhlpkhfdghngaaGreatDoor
open Go.RowKit Go.Sort
set_option linter.unusedVariables false
set_option linter.unusedSimpArgs false
set_option maxRecDepth 100000
set_option maxHeartbeats 4000000 in
theorem rPath_any (A : Option Addr) (n c : Nat) (l : List ByteArray) (w : World) (hR : Reads w 1 A n (l.map .string)) (hn : n ≤ 1000000) (hsz : ∀ p ∈ l, p.size ≤ 4294967281) : Calls Tryz.prog 281 #[.slice A n c] w (RPathPost (resB [] l) w) := by
 have hl : l.length = n := by have := hR.1; simpa using this
 obtain ⟨i0, hi0, hz0, hz1, hz2⟩ := info_parts infoStr
 have HI : Hid ((Tryz.prog.info? 9 = some i0) ∧ i0.zero = some (.string ⟨#[]⟩) ∧ i0.size = 1 ∧ i0.bytes = 16) := Lib.hid ⟨hi0, hz0, hz1, hz2⟩
 have HL := Lib.hid hl
 have HR := Lib.hid hR
 have HZ := Lib.hid hsz
 generalize hV : RPathPost (resB [] l) w = V
 have HV := Lib.hid hV
 clear hi0 hz0 hz1 hz2 hl hR hsz hV
 go_enter Tryz.func281, Tryz.ntmps281
 go_wp2
 go_loopw [4, 5] (fun va vi wr => ∃ (k m : Nat) (acc : List ByteArray) (A' : Option Addr) (c' : Nat), (vi = .int .i64 k ∧ va = .slice A' m c' ∧ k ≤ n ∧ m ≤ k) ∧ Hid (resB [] l = resB acc (l.drop k) ∧ acc.length = m) ∧ wr.ownsRow w.heap.size 9 1 (.slice A' m c') m (acc.map .string) ∧ Below w.heap.size w wr) (fun _ i _ => n - (intOf i).toNat)
 case atStart => exact ⟨0, 0, [], none, 0, ⟨rfl, rfl, Nat.zero_le _, Nat.le_refl _⟩, Lib.hid ⟨rfl, rfl⟩, World.ownsRow_nil _ _ _ _, Below.refl _ _⟩
 case round =>
  obtain ⟨k, m, acc, A', c', ⟨rfl, rfl, hk, hm⟩, HK, hown, hbr⟩ := hrel
  have hbs := hbr.size
  by_cases hlt : k < n
  ·obtain ⟨x, hx⟩ : ∃ x, l[k]? = some x := ⟨_, List.getElem?_eq_getElem (by have := HL.out; omega)⟩
   obtain ⟨b, o, rfl, hcell⟩ := HR.out.2 (by omega)
   have hc0 : w.cell? ⟨b, o + k, none⟩ = some (.string x) := hcell k _ (by simp [hx])
   have hc1 : wr.cell? ⟨b, o + k, none⟩ = some (.string x) := cell_keep hbr hc0
   have hk0 : (0 : Int) ≤ (k : Int) := by omega
   have hk1 : (k : Int) < (n : Int) := by omega
   have hd : l.drop k = x :: l.drop (k + 1) := by
    obtain ⟨hl2, rfl⟩ := List.getElem?_eq_some_iff.1 hx
    exact List.drop_eq_getElem_cons hl2
   have hr1 := HK.out.1
   rw [hd, resB] at hr1
   have hml := HK.out.2
   have hxs : x.size ≤ 4294967281 := HZ.out x (List.mem_of_getElem? hx)
   have cW := fun W => rWord_any x W hxs
   clear hcell hx hd HK
   cases e1 : (x.toList == [46])
   rotate_left
   ·have hr2 := hr1
    simp only [resStep, e1, if_true, Option.bind_some] at hr2
    have HK2 := Lib.hid (show resB [] l = resB acc (l.drop (k + 1)) ∧ acc.length = m from ⟨hr2, hml⟩)
    clear hr1 hr2 hml cW
    go_wp2
    exact ⟨⟨k + 1, m, acc, A', c', ⟨by go_num, rfl, by omega, by omega⟩, HK2, hown, hbr⟩, by simp [intOf]; omega⟩
   have e1' : ¬ x.toList = [46] := by simpa using e1
   cases e2 : (x.toList == [46, 46])
   rotate_left
   ·by_cases hm0 : m = 0
    ·subst hm0
     obtain rfl : acc = [] := List.eq_nil_of_length_eq_zero hml
     have hwf : isWordB x = false := by simp [isWordB, beq_iff_eq.1 e2]
     have hn : resB [] l = none := by rw [hr1]; simp [resStep, e1, e2, hwf]
     have HN := Lib.hid hn
     clear hr1 hml cW hwf hn
     go_wp2
     rw [← HV.out, HN.out]
     exact ⟨belB, rfl⟩
    ·obtain ⟨init, last, hacc⟩ : ∃ init last, acc = init ++ [last] := by
      rcases List.eq_nil_or_concat acc with rfl | ⟨init, last, rfl⟩
      ·exact absurd hml.symm hm0
      ·exact ⟨init, last, by rw [List.concat_eq_append]⟩
     subst hacc
     obtain ⟨m', rfl⟩ : ∃ m', m = m' + 1 := ⟨m - 1, by omega⟩
     have hil : init.length = m' := by simpa using hml
     have hr2 := hr1
     rw [show resStep (init ++ [last]) x = some init by simp [resStep, e1, e2], Option.bind_some] at hr2
     have HK2 := Lib.hid (show resB [] l = resB init (l.drop (k + 1)) ∧ init.length = m' from ⟨hr2, hil⟩)
     clear hr1 hr2 hml cW
     obtain ⟨g, hA⟩ : ∃ g, A' = some ⟨g, 0, none⟩ := by
      obtain ⟨g, cap, hv⟩ := ownsRow_succ hown
      injection hv with hv
      exact ⟨g, hv⟩
     subst hA
     have hpop : Hid (∀ j u, (init.map Value.string)[j]? = some u → wr.cell? ⟨g, j, none⟩ = some u) := Lib.hid fun j u hu => by
      have hjl : j < (init.map Value.string).length := (List.getElem?_eq_some_iff.1 hu).1
      rw [hown.cellAt j (by simp at hjl; omega), List.map_append, List.getElem?_append_left hjl]
      exact hu
     have hcap := ownsRow_cap hown
     have hgb := ownsRow_block hown g rfl
     have hgl : g < wr.heap.size := (hown.lt g rfl).2
     clear hown
     have hpos : ((m' : Int) + 1 == 0) = false := beq_eq_false_iff_ne.2 (by omega)
     have q1 : (0 : Int) ≤ (m' : Int) := by omega
     have hone : ∀ u ∈ init.map Value.string, u.oneCell' = true := by
      intro u hu; obtain ⟨_, _, rfl⟩ := List.mem_map.1 hu; rfl
     have hlen : (init.map Value.string).length = m' * 1 := by simp [hil]
     have hadd : ∀ j, (⟨g, 0, none⟩ : Addr).add j = ⟨g, j, none⟩ := fun j => by unfold Addr.add; split <;> simp_all
     have hnew : ∀ j u, (init.map Value.string)[j]? = some u → (wr.alloc (.cells #[] 9)).cell? ((⟨g, 0, none⟩ : Addr).add j) = some u := fun j u hu => by
      rw [hadd, World.cell?_of_block (w := wr) (Below.heap_alloc wr _ g hgl)]
      exact hpop.out j u hu
     have HN2 := Lib.hid hnew; have HO := Lib.hid hone; have HLN := Lib.hid hlen
     clear hnew hone hlen hadd
     go_wp2_with (at_builtin; refine wpList_append_own _ rfl _ _ 27 rfl w.heap.size 9 i0 (.string ⟨#[]⟩) 1 16 Tryz.underlying27 HI.out.1 HI.out.2.1 HI.out.2.2.1 HI.out.2.2.2 rfl (by decide) _ _ _ rfl (World.ownsRow_made (base := w.heap.size) (e := 9) (size := 1) wr #[] 0 hbs (Nat.zero_le _) rfl) ⟨g, 0, none⟩ m' c' (init.map .string) rfl HLN.out HN2.out HO.out (by unfold maxLen; omega) (by omega) (by simp; omega) ?_; intro v' w3 hown3 hgrow3 _)
     obtain ⟨A3, c3, rfl⟩ : ∃ A3 c3, v' = .slice A3 m' c3 := by
      rcases hown3.2 with ⟨h1, h2⟩ | ⟨g3, cap3, cur3, h1, _⟩
      ·exact ⟨none, 0, by rw [h1]; congr 1; omega⟩
      ·exact ⟨_, _, by rw [h1]; congr 1; omega⟩
     exact ⟨⟨k + 1, m', init, A3, c3, ⟨by go_num, rfl, by omega, by omega⟩, HK2, by simpa using hown3, (hbr.alloc hbs _).grown hgrow3 (by simp; omega) (fun r e => by injection e with e; simp at e; omega)⟩, by simp [intOf]; omega⟩
   have e2' : ¬ x.toList = [46, 46] := by simpa using e2
   cases hw : isWordB x
   ·have hn : resB [] l = none := by rw [hr1]; simp [resStep, e1, e2, hw]
    rw [hw] at cW
    have HW := Lib.hid cW
    have HN := Lib.hid hn
    clear hr1 hml cW hw hn
    go_wp2_with (go_at_call 112; refine (HW.out _).mono ?_; rintro e w1 ⟨rfl, hb1⟩)
    rw [← HV.out, HN.out]
    exact ⟨belB, rfl⟩
   ·have hr2 := hr1
    rw [show resStep acc x = some (acc ++ [x]) by simp [resStep, e1, e2, hw], Option.bind_some] at hr2
    have HK2 := Lib.hid (show resB [] l = resB (acc ++ [x]) (l.drop (k + 1)) ∧ (acc ++ [x]).length = m + 1 from ⟨hr2, by simp [hml]⟩)
    rw [hw] at cW
    have HW := Lib.hid cW
    clear hr1 hr2 hml cW hw
    go_wp2_with (first | (go_at_call 112; refine (HW.out _).mono ?_; rintro e w1 ⟨rfl, hb1⟩; have hown1 := ownsRow_keep hown hb1; have hbs1 := hb1.size; have hbw1 := bstep hbr hb1; have hc2 := cell_keep hb1 hc1; clear hown) | (at_builtin; refine wpList_append_own _ rfl _ _ 27 rfl w.heap.size 9 i0 (.string ⟨#[]⟩) 1 16 Tryz.underlying27 HI.out.1 HI.out.2.1 HI.out.2.2.1 HI.out.2.2.2 rfl (by decide) _ _ _ rfl (hown1.alloc _) ⟨w1.heap.size, 0, none⟩ 1 1 [.string x] rfl rfl (cell_one_new _ _ _) (by simp [Value.oneCell']) (by unfold maxLen; omega) (by omega) (by simp; omega) ?_; intro v' w3 hown3 hgrow3 _; obtain ⟨g1, cap1, rfl⟩ := ownsRow_succ hown3; have hb3 : Below w.heap.size w w3 := (hbw1.alloc hbw1.size _).grown hgrow3 (by simp; omega) (fun r e => ownsRow_block hown1 r e)))
    exact ⟨⟨k + 1, m + 1, acc ++ [x], some ⟨g1, 0, none⟩, cap1, ⟨by go_num, rfl, by omega, by omega⟩, HK2, by rw [List.map_append]; exact hown3, hb3⟩, by simp [intOf]; omega⟩
  ·obtain rfl : k = n := by omega
   have hfin : resB [] l = some acc := by
    rw [HK.out.1, List.drop_eq_nil_of_le (by have := HL.out; omega), resB]
   have HF := Lib.hid hfin
   have hml := HK.out.2
   clear hfin HK
   go_wp2
   rw [← HV.out, HF.out]
   exact ⟨belB, A', c', by rw [hml]; rfl, by rw [hml]; exact Reads.of_own hown, fun a ha => by have := ownsRow_block hown a.block (by rw [ha]; rfl); omega⟩
end Go.Proofs.YtjhlpkhfdghngaaGreatDoor
