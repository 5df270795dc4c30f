/- What 'Split', 'HasTag' and 'Under' return. -/
import Derived.Test.YtjhlpkhfdghngaaGreatDoorGZ48
namespace Go.Proofs.YtjhlpkhfdghngaaGreatDoor
open Go.RowKit Go.Sort
set_option linter.unusedVariables false
set_option linter.unusedSimpArgs false
set_option maxRecDepth 100000
theorem tagsR_err (ps : List ByteArray) : (tagsR ps).2 = 0 ∨ (tagsR ps).2 = 1 ∨ (tagsR ps).2 = 2 := by
 unfold tagsR; split <;> (try split) <;> simp
set_option maxHeartbeats 2000000 in
theorem addrSplit_any (s : ByteArray) (w : World) (hs : s.size ≤ 100000) (hE : Env w) : Calls Tryz.prog 225 #[.string s] w (SplitPost (splitR s) w) := by
 cases hem : s.toList.isEmpty
 ·have hr : splitR s = if (tagsR (splitB 44 s)).2 = 0 ∧ ((tagsR (splitB 44 s)).1.toList == s.toList) = true then (splitB 44 s, 0) else ([], 3) := by
   unfold splitR; rw [if_neg (by simp [hem])]
  rw [hr]
  have cS := split_any s 44 w (by omega) hE
  have hnum := splitB_num 44 s
  have hsz := splitB_size 44 s
  have herr := tagsR_err (splitB 44 s)
  have cT := fun A c W h => tags_any A (splitB 44 s).length c (splitB 44 s) W h (by omega) (fun p hp => by have := hsz p hp; omega)
  unfold tagsV at cT
  generalize splitB 44 s = ps at *
  generalize tagsR ps = r at *
  obtain ⟨T, er⟩ := r
  dsimp only at *
  have HT := Lib.hid cT
  have HS := Lib.hid cS
  clear cT cS hr
  have walkbad : ∀ V, V = SplitPost ([], 3) w → (er = 0 → (T.toList == s.toList) = false) → Calls Tryz.prog 225 #[.string s] w V := by
   intro V hV h
   have HV := Lib.hid hV
   rcases herr with rfl | rfl | rfl
   ·have h := h rfl
    go_enter Tryz.func225, Tryz.ntmps225
    go_wp2_with (first | (go_at_call 138; refine HS.out.mono ?_; rintro e w1 ⟨hb1, A, c, rfl, hR, hA⟩) | (go_at_call 23; refine (HT.out _ _ _ hR).mono ?_; rintro e w2 ⟨rfl, hb2⟩))
    rw [HV.out]; exact SplitPost.none_ belB
   all_goals
    go_enter Tryz.func225, Tryz.ntmps225
    go_wp2_with (first | (go_at_call 138; refine HS.out.mono ?_; rintro e w1 ⟨hb1, A, c, rfl, hR, hA⟩) | (go_at_call 23; refine (HT.out _ _ _ hR).mono ?_; rintro e w2 ⟨rfl, hb2⟩))
    rw [HV.out]; exact SplitPost.none_ belB
  by_cases hok : er = 0 ∧ (T.toList == s.toList) = true
  ·rw [if_pos hok]
   obtain ⟨rfl, he⟩ := hok
   generalize hV : SplitPost (ps, 0) w = V
   have HV := Lib.hid hV
   clear hV
   go_enter Tryz.func225, Tryz.ntmps225
   go_wp2_with (first | (go_at_call 138; refine HS.out.mono ?_; rintro e w1 ⟨hb1, A, c, rfl, hR, hA⟩) | (go_at_call 23; refine (HT.out _ _ _ hR).mono ?_; rintro e w2 ⟨rfl, hb2⟩))
   rw [← HV.out]; exact ⟨belB, A, c, rfl, hR.keep hb2⟩
  ·rw [if_neg hok]
   exact walkbad _ rfl (fun h0 => by simpa [h0] using hok)
 ·have hr : splitR s = ([], 0) := by unfold splitR; rw [if_pos hem]
  rw [hr]
  go_enter Tryz.func225, Tryz.ntmps225
  go_wp2
  go_ret2
  exact SplitPost.none_ belB
theorem hasTag_any (s tag : ByteArray) (w : World) (hs : s.size ≤ 100000) (hE : Env w) : Calls Tryz.prog 161 #[.string s, .string tag] w (Ret w (.bool (hasTagB s tag))) := by
 have cS := addrSplit_any s w hs hE
 unfold hasTagB
 have hlen : (splitR s).1.length ≤ 200000 := by
  unfold splitR
  have := splitB_num 44 s
  split
  ·simp
  ·split
   ·simp; omega
   ·simp
 generalize splitR s = r at *
 obtain ⟨ps, er⟩ := r
 dsimp only at *
 have HS := Lib.hid cS
 clear cS
 have cK : ∀ (A : Option Addr) (c : Nat) (W : World), Reads W 1 A ps.length (ps.map .string) → Calls Tryz.prog 148 #[.slice A ps.length c, .string tag] W (Ret W (.bool (Lib.containsS ps tag))) := by
  intro A c W hR
  by_cases h0 : ps = []
  ·subst h0
   refine (Tryz.slices_Contains_string_empty A c tag W).mono ?_
   rintro e w' ⟨rfl, rfl⟩
   exact ⟨rfl, Below.refl _ _⟩
  ·obtain ⟨b, o, rfl, hc⟩ := hR.2 (List.length_pos_iff.2 h0)
   have := Tryz.slices_Contains_string b o ps.length c ps tag W (Nat.le_refl _) (by omega) (fun j hj => by
    refine hc j _ ?_
    rw [List.getElem?_map, List.getElem?_eq_getElem hj]
    simp [List.getD_eq_getElem?_getD, List.getElem?_eq_getElem hj])
   refine this.mono ?_
   rintro e w' ⟨rfl, rfl⟩
   rw [List.take_length]
   exact ⟨rfl, Below.refl _ _⟩
 have HK := Lib.hid cK
 clear cK
 generalize Lib.containsS ps tag = res at *
 go_enter Tryz.func161, Tryz.ntmps161
 go_wp2_with (first | (go_at_call 225; refine HS.out.mono ?_; rintro e w1 ⟨hb1, A, c, rfl, hR⟩) | (go_at_call 148; refine (HK.out _ _ _ hR).mono ?_; rintro e w2 ⟨rfl, hb2⟩))
 go_ret
 exact ⟨rfl, belB⟩
end Go.Proofs.YtjhlpkhfdghngaaGreatDoor
namespace Go.Proofs.YtjhlpkhfdghngaaGreatDoor
open Go.RowKit Go.Sort
set_option linter.unusedVariables false
set_option linter.unusedSimpArgs false
set_option maxRecDepth 100000
section
variable {w : World} {g : Nat} {fr till us : Int} {pat : ByteArray} {A B S : Option Addr} {na ca nb cb ns cs : Nat}
end
theorem all_take2 {α : Type} {p : α → Bool} {l : List α} {k : Nat} {x : α} (h : (l.take k).all p = true) (hx : l[k]? = some x) (hp : p x = true) : (l.take (k + 1)).all p = true := by
 rw [List.take_add_one, hx]
 simp [h, hp]
theorem all_false2 {α : Type} {p : α → Bool} {l : List α} {k : Nat} {x : α} (hx : l[k]? = some x) (hp : p x = false) : l.all p = false := by
 rw [List.all_eq_false]
 exact ⟨x, List.mem_of_getElem? hx, by rw [hp]; decide⟩
set_option maxHeartbeats 4000000 in
theorem rFew_any (fr till us : Int) (pat : ByteArray) (A B S : Option Addr) (na ca nb cb ns cs : Nat) (cl co : List ByteArray) (w : World) (hA : Reads w 1 A na (cl.map .string)) (hB : Reads w 1 B nb (co.map .string)) :
  Calls Tryz.prog 105 #[.agg #[.int .i64 fr, .int .i64 till, .string pat, .slice A na ca, .slice B nb cb, .slice S ns cs, .int .i64 us]] w (Ret w (.bool (fewC na nb ns pat cl co))) := by
 have hna : cl.length = na := by have := hA.1; simp at this; omega
 have hnb : co.length = nb := by have := hB.1; simp at this; omega
 obtain ⟨V, hV⟩ : ∃ V, V = fewC na nb ns pat cl co := ⟨_, rfl⟩
 rw [← hV]
 unfold fewC at hV
 have HA := Lib.hid hA; have HB := Lib.hid hB; have HNA := Lib.hid hna; have HNB := Lib.hid hnb
 clear hA hB hna hnb
 by_cases h1 : na ≤ 40
 rotate_left
 ·obtain rfl : V = false := by rw [hV]; simp [h1]
  have d1 : decide ((40 : Int) < (na : Int)) = true := decide_eq_true (by omega)
  clear hV
  go_enter Tryz.func105, Tryz.ntmps105
  go_wp2
  go_ret
  exact ⟨rfl, belB⟩
 have d1 : decide ((40 : Int) < (na : Int)) = false := decide_eq_false (by omega)
 by_cases h2 : nb ≤ 40
 rotate_left
 ·obtain rfl : V = false := by rw [hV]; simp [h2]
  have d2 : decide ((40 : Int) < (nb : Int)) = true := decide_eq_true (by omega)
  clear hV
  go_enter Tryz.func105, Tryz.ntmps105
  go_wp2
  go_ret
  exact ⟨rfl, belB⟩
 have d2 : decide ((40 : Int) < (nb : Int)) = false := decide_eq_false (by omega)
 by_cases h3 : ns ≤ 70
 rotate_left
 ·obtain rfl : V = false := by rw [hV]; simp [h3]
  have d3 : decide ((70 : Int) < (ns : Int)) = true := decide_eq_true (by omega)
  clear hV
  go_enter Tryz.func105, Tryz.ntmps105
  go_wp2
  go_ret
  exact ⟨rfl, belB⟩
 have d3 : decide ((70 : Int) < (ns : Int)) = false := decide_eq_false (by omega)
 by_cases h4 : pat.size ≤ 1000
 rotate_left
 ·obtain rfl : V = false := by rw [hV]; simp [h4]
  have d4 : decide ((1000 : Int) < (pat.size : Int)) = true := decide_eq_true (by omega)
  clear hV
  go_enter Tryz.func105, Tryz.ntmps105
  go_wp2
  go_ret
  exact ⟨rfl, belB⟩
 have d4 : decide ((1000 : Int) < (pat.size : Int)) = false := decide_eq_false (by omega)
 have hv2 : V = (cl.all (fun x => decide (x.size ≤ 100)) && co.all (fun x => decide (x.size ≤ 100))) := by rw [hV]; simp [h1, h2, h3, h4]
 have HV := Lib.hid hv2
 clear hV hv2
 go_enter Tryz.func105, Tryz.ntmps105
 go_wp2
 have hX0 : CBox (w.alloc (.cells #[.int .i64 fr, .int .i64 till, .string pat, .slice A na ca, .slice B nb cb, .slice S ns cs, .int .i64 us] 31)) w.heap.size fr till pat A na ca B nb cb S ns cs us := World.alloc_heap_new _ _
 go_loopw [3] (fun vi wr => ∃ k : Nat, vi = .int .i64 k ∧ k ≤ na ∧ Hid ((cl.take k).all (fun x => decide (x.size ≤ 100)) = true) ∧ CBox wr w.heap.size fr till pat A na ca B nb cb S ns cs us ∧ Below w.heap.size w wr) (fun i _ => na - (intOf i).toNat)
 case atStart => exact ⟨0, rfl, Nat.zero_le _, Lib.hid (by simp), hX0, balloc (Below.refl _ _) _⟩
 case round =>
  clear hX0
  obtain ⟨k, rfl, hk, HK, hX, hbr⟩ := hrel
  obtain ⟨x0, x1, x2, x3, x4, x5, x6⟩ := hX.facts
  by_cases hlt : k < na
  ·obtain ⟨x, hx⟩ : ∃ x, cl[k]? = some x := ⟨_, List.getElem?_eq_getElem (by have := HNA.out; omega)⟩
   obtain ⟨b, o, rfl, hcell⟩ := (HA.out.keep hbr).2 (by omega)
   have hc1 : wr.cell? ⟨b, o + k, none⟩ = some (.string x) := hcell k _ (by simp [hx])
   have hk0 : (0 : Int) ≤ (k : Int) := by omega
   have hk1 : (k : Int) < (na : Int) := by omega
   by_cases hs : x.size ≤ 100
   ·have HK2 : Hid ((cl.take (k + 1)).all (fun x => decide (x.size ≤ 100)) = true) := Lib.hid (all_take2 HK.out hx (by simpa using hs))
    have d5 : decide ((100 : Int) < (x.size : Int)) = false := decide_eq_false (by omega)
    clear hcell hx HK
    go_wp2
    exact ⟨⟨k + 1, by go_num, by omega, HK2, hX, hbr⟩, by simp [intOf]; omega⟩
   ·obtain rfl : V = false := by rw [HV.out, all_false2 hx (by simpa using hs)]; rfl
    have d5 : decide ((100 : Int) < (x.size : Int)) = true := decide_eq_true (by omega)
    clear hcell hx HK
    go_wp2
    go_ret
    exact ⟨rfl, hbr⟩
  ·obtain rfl : k = na := by omega
   have hall : cl.all (fun x => decide (x.size ≤ 100)) = true := by
    have := HK.out
    rwa [List.take_of_length_le (by have := HNA.out; omega)] at this
   have hv3 : V = co.all (fun x => decide (x.size ≤ 100)) := by rw [HV.out, hall, Bool.true_and]
   have HV2 := Lib.hid hv3
   clear hall hv3 HK HV
   go_wp2
   clear x0 x1 x2 x3 x4 x5 x6
   obtain ⟨wo, rfl⟩ : ∃ wo : World, wo = wr := ⟨_, rfl⟩
   go_loopw [4] (fun vi wz => ∃ j : Nat, vi = .int .i64 j ∧ j ≤ nb ∧ Hid ((co.take j).all (fun x => decide (x.size ≤ 100)) = true) ∧ CBox wz w.heap.size fr till pat A k ca B nb cb S ns cs us ∧ Below w.heap.size w wz) (fun i _ => nb - (intOf i).toNat)
   case atStart => exact ⟨0, rfl, Nat.zero_le _, Lib.hid (by simp), hX, hbr⟩
   case round =>
    clear hX hbr
    obtain ⟨j, rfl, hj, HJ, hX, hbr⟩ := hrel
    obtain ⟨x0, x1, x2, x3, x4, x5, x6⟩ := hX.facts
    by_cases hlt2 : j < nb
    ·obtain ⟨x, hx⟩ : ∃ x, co[j]? = some x := ⟨_, List.getElem?_eq_getElem (by have := HNB.out; omega)⟩
     obtain ⟨b, o, rfl, hcell⟩ := (HB.out.keep hbr).2 (by omega)
     have hc1 : wr.cell? ⟨b, o + j, none⟩ = some (.string x) := hcell j _ (by simp [hx])
     have hj0 : (0 : Int) ≤ (j : Int) := by omega
     have hj1 : (j : Int) < (nb : Int) := by omega
     by_cases hs : x.size ≤ 100
     ·have HJ2 : Hid ((co.take (j + 1)).all (fun x => decide (x.size ≤ 100)) = true) := Lib.hid (all_take2 HJ.out hx (by simpa using hs))
      have d5 : decide ((100 : Int) < (x.size : Int)) = false := decide_eq_false (by omega)
      clear hcell hx HJ
      go_wp2
      exact ⟨⟨j + 1, by go_num, by omega, HJ2, hX, hbr⟩, by simp [intOf]; omega⟩
     ·obtain rfl : V = false := by rw [HV2.out, all_false2 hx (by simpa using hs)]
      have d5 : decide ((100 : Int) < (x.size : Int)) = true := decide_eq_true (by omega)
      clear hcell hx HJ
      go_wp2
      go_ret
      exact ⟨rfl, hbr⟩
    ·obtain rfl : j = nb := by omega
     have hall : co.all (fun x => decide (x.size ≤ 100)) = true := by
      have := HJ.out
      rwa [List.take_of_length_le (by have := HNB.out; omega)] at this
     obtain rfl : V = true := by rw [HV2.out, hall]
     go_wp2
     go_ret
     exact ⟨rfl, hbr⟩
end Go.Proofs.YtjhlpkhfdghngaaGreatDoor
namespace Go.Proofs.YtjhlpkhfdghngaaGreatDoor
open Go.RowKit Go.Sort
set_option linter.unusedVariables false
set_option linter.unusedSimpArgs false
set_option maxRecDepth 100000
open Go.Maps
theorem alloc2_cell (w : World) (cs : Array Value) (t : TypeId) (o : Obj) {k : Nat} {v : Value} (h : cs[k]? = some v) : ((w.alloc (.cells cs t)).alloc o).cell? ⟨w.heap.size, k, none⟩ = some v := by
 rw [cell_of_row _ _ _ cs t (0, 0) (heap_alloc2_old w (.cells cs t) o)]; exact h
end Go.Proofs.YtjhlpkhfdghngaaGreatDoor
namespace Go.Proofs.YtjhlpkhfdghngaaGreatDoor
open Go.RowKit Go.Sort
set_option linter.unusedVariables false
set_option linter.unusedSimpArgs false
set_option maxRecDepth 100000
theorem matches1_any (t tags : ByteArray) (b : Nat) (w : World) (hc : w.cell? ⟨b, 0, none⟩ = some (.string tags)) (hs : tags.size ≤ 100000) (hE : Env w) : Calls Tryz.prog 160 #[.string t, .pointer (some ⟨b, 0, none⟩)] w (Ret w (.bool (!hasTagB tags t))) := by
 have HH := Lib.hid (hasTag_any tags t w hs hE)
 clear hE
 generalize hasTagB tags t = v at *
 go_enter Tryz.func160, Tryz.ntmps160
 go_wp2_with (go_at_call 161; refine HH.out.mono ?_; rintro e w2 ⟨rfl, hb2⟩)
 go_ret
 exact ⟨rfl, hb2⟩
def mtX (r : RuleV) (a t : ByteArray) : Bool := matchB r.pat a && r.tags.all (hasTagB t)
theorem any_not {α : Type} (p : α → Bool) : ∀ l : List α, (!l.any fun x => !p x) = l.all p
 | [] => rfl
 | x :: l => by
  have := any_not p l
  simp only [List.any_cons, List.all_cons, Bool.not_or, Bool.not_not, this]
set_option maxHeartbeats 4000000 in
theorem matches_any (x : RuleM) (a t : ByteArray) (w : World) (hR : RuleReads w x) (hp : x.r.pat.size ≤ 100000) (hn : x.r.tags.length ≤ 1000) (ha : a.size ≤ 100000) (ht : t.size ≤ 100000) (hE : Env w) :
  Calls Tryz.prog 86 #[x.val, .string a, .string t] w (Ret w (.bool (mtX x.r a t))) := by
 have cM := fun (W : World) (hb : Below w.heap.size w W) => match_any x.r.pat a W hp ha (Env.keep hE hb)
 have hb0 : ∀ W (hb : Below w.heap.size w W) (b : Nat), W.cell? ⟨b, 0, none⟩ = some (.string t) → Calls Tryz.prog 69 #[.slice x.T x.r.tags.length x.ct, .func (.func 160) #[] #[.pointer (some ⟨b, 0, none⟩)]] W (Ret W (.bool (x.r.tags.any fun y => !hasTagB t y))) := fun W hb b hc =>
  containsFuncC_any 160 (enters_of Tryz.func160 (by kernel_rfl) rfl) (.pointer (some ⟨b, 0, none⟩)) (fun y => !hasTagB t y) x.T x.r.tags.length x.ct x.r.tags W (fun y hy W' hb' => matches1_any y t b W' (cell_keep hb' hc) ht (Env.keep hE (bstep hb hb'))) (hR.tags.keep hb) (by omega)
 have hv : mtX x.r a t = (matchB x.r.pat a && !(x.r.tags.any fun y => !hasTagB t y)) := by unfold mtX; rw [any_not]
 rw [hv]
 generalize (x.r.tags.any fun y => !hasTagB t y) = b2 at *
 generalize matchB x.r.pat a = b1 at *
 have hmf : ∀ (fn : Fn) (first cap : Array Value) (w : World), (Instr.makeFunc fn first cap).run Tryz.prog w = .ok (.func fn first cap) w := fun _ _ _ _ => rfl
 have HM := Lib.hid cM; have HC := Lib.hid hb0
 clear cM hb0 hv hR hE
 rw [RuleM.val_eq]
 cases b1
 ·rw [Bool.false_and]
  go_enter Tryz.func86, Tryz.ntmps86
  go_wp2_with (go_at_call 21; refine (HM.out _ belB).mono ?_; rintro e w2 ⟨rfl, hb2⟩)
  go_ret
  exact ⟨rfl, belB⟩
 ·rw [Bool.true_and]
  go_enter Tryz.func86, Tryz.ntmps86
  go_wp2_with (first | (go_at_call 21; refine (HM.out _ belB).mono ?_; rintro e w2 ⟨rfl, hb2⟩; have y2 := cell_keep hb2 (alloc2_cell w _ _ _ (k := 2) rfl); have y9 : w2.cell? ⟨w.heap.size + 1, 0, none⟩ = some (.string t) := cell_keep hb2 ((cell_of_row _ _ 0 _ _ _ (heap_alloc2_new w _ _)).trans rfl)) | (go_at_call 69; refine (HC.out _ belB _ y9).mono ?_; rintro e w3 ⟨rfl, hb3⟩))
  go_ret
  exact ⟨rfl, belB⟩
end Go.Proofs.YtjhlpkhfdghngaaGreatDoor
namespace Go.Proofs.YtjhlpkhfdghngaaGreatDoor
open Go.RowKit Go.Sort
set_option linter.unusedVariables false
set_option linter.unusedSimpArgs false
set_option maxRecDepth 100000
theorem choose1_any (x : RuleM) (a t : ByteArray) (b b2 : Nat) (w : World) (hR : RuleReads w x) (hc : w.cell? ⟨b, 0, none⟩ = some (.string a)) (hc2 : w.cell? ⟨b2, 0, none⟩ = some (.string t)) (hp : x.r.pat.size ≤ 100000) (hn : x.r.tags.length ≤ 1000) (ha : a.size ≤ 100000) (ht : t.size ≤ 100000) (hE : Env w) :
  Calls Tryz.prog 85 #[x.val, .pointer (some ⟨b, 0, none⟩), .pointer (some ⟨b2, 0, none⟩)] w (Ret w (.bool (mtX x.r a t))) := by
 have hm := fun W (hb : Below w.heap.size w W) => matches_any x a t W (hR.keep hb) hp hn ha ht (Env.keep hE hb)
 rw [RuleM.val_eq] at *
 have HM := Lib.hid hm
 clear hm hR hE
 generalize mtX x.r a t = v at *
 have hl1 := cell_lt hc
 have hl2 := cell_lt hc2
 go_enter Tryz.func85, Tryz.ntmps85
 go_wp2_with (go_at_call 86; refine (HM.out _ belB).mono ?_; rintro e w2 ⟨rfl, hb2⟩)
 go_ret
 exact ⟨rfl, belB⟩
set_option maxHeartbeats 2000000 in
theorem indexFuncR_any (g : Nat) (eg : ∀ args w, (callFunc g args).run Tryz.prog w = .ok (.enter g args) w) (cv cv2 : Value) (p : RuleM → Bool) (A : Option Addr) (n c : Nat) (L : List RuleM) (w : World)
  (hp : ∀ x ∈ L, ∀ W, Below w.heap.size w W → Calls Tryz.prog g #[x.val, cv, cv2] W (Ret W (.bool (p x)))) (hA : RulesRead w A n L) (hn : n ≤ 1000000000) :
  Calls Tryz.prog 84 #[.slice A n c, .func (.func g) #[] #[cv, cv2]] w (Ret w (.int .i64 (idxA p L 0))) := by
 have hl : n ≤ L.length ∧ L.length ≤ n := by have := hA.len; omega
 have HP := Lib.hid hp; have HA := Lib.hid hA
 clear hp hA
 go_enter Tryz.func84, Tryz.ntmps84
 go_wp2
 go_loopw [8] (fun i wr => ∃ k : Nat, k ≤ n ∧ i = .int .i64 k ∧ Hid (idxA p L 0 = idxA p (L.drop k) k) ∧ Below w.heap.size w wr) (fun i _ => n - (intOf i).toNat)
 case atStart => exact ⟨0, by omega, rfl, Lib.hid rfl, Below.refl _ _⟩
 case round =>
  obtain ⟨k, hk, rfl, HI, hb⟩ := hrel
  by_cases hlt : k < n
  ·obtain ⟨x, hx⟩ : ∃ x, L[k]? = some x := ⟨_, List.getElem?_eq_getElem (by omega)⟩
   obtain ⟨_, b, o, rfl, hcell⟩ := (HA.out.keep hb).at_ hx
   have hld := rule_load wr b (o + k * 18) x hcell
   have hc := HP.out x (List.mem_of_getElem? hx) wr hb
   have hd : L.drop k = x :: L.drop (k + 1) := by
    obtain ⟨hl2, rfl⟩ := List.getElem?_eq_some_iff.1 hx
    exact List.drop_eq_getElem_cons hl2
   have HI2 := HI.out
   rw [hd, idxA] at HI2
   have HX := Lib.hid hcell
   clear hd hx HI hcell
   have HI := Lib.hid HI2
   clear HI2
   have hxv : x.val = x.val := rfl
   generalize x.val = xv at hld hc
   clear hxv
   cases hpx : p x
   all_goals
    rw [hpx] at hc HI
    have HC := Lib.hid hc
    clear hc hpx
    go_wp2_with (first | (refine wpList_load_addr rfl _ _ rfl ⟨b, o + k * 18, none⟩ xv rfl hld ?_) | (go_at_fn g; refine (HC.out).mono ?_; rintro e w2 ⟨rfl, hb2⟩))
   ·refine ⟨⟨k + 1, by omega, by go_num, Lib.hid (by have := HI.out; simpa using this), bstep hb hb2⟩, by simp [intOf]; omega⟩
   ·go_ret
    have := HI.out
    exact ⟨ret_int (by rw [this]; simp), bstep hb hb2⟩
  ·have he : idxA p L 0 = -1 := by rw [HI.out, List.drop_eq_nil_of_le (by omega)]; rfl
   have HE := Lib.hid he
   clear he HI
   go_wp2
   go_ret
   exact ⟨ret_int HE.out.symm, hb⟩
def chooseX (L : List RuleM) (a t : ByteArray) : Int := idxA (fun x => mtX x.r a t) L 0
structure RulesFit (L : List RuleM) : Prop where
 n : L.length ≤ 1000
 p : ∀ x ∈ L, x.r.pat.size ≤ 100000
 t : ∀ x ∈ L, x.r.tags.length ≤ 1000
set_option maxHeartbeats 4000000 in
theorem choose_any (A : Option Addr) (n c : Nat) (L : List RuleM) (a t : ByteArray) (w : World) (hL : RulesRead w A n L) (hf : RulesFit L) (ha : a.size ≤ 100000) (ht : t.size ≤ 100000) (hE : Env w) :
  Calls Tryz.prog 25 #[.slice A n c, .string a, .string t] w (Ret w (.int .i64 (chooseX L a t))) := by
 have hn : n ≤ 1000 := by have := hL.len; have := hf.n; omega
 have hi : Calls Tryz.prog 84 #[.slice A n c, .func (.func 85) #[] #[.pointer (some ⟨w.heap.size, 0, none⟩), .pointer (some ⟨w.heap.size + 1, 0, none⟩)]] ((w.alloc (.cells #[.string a] 9)).alloc (.cells #[.string t] 9)) (Ret ((w.alloc (.cells #[.string a] 9)).alloc (.cells #[.string t] 9)) (.int .i64 (chooseX L a t))) := by
  have hb : Below w.heap.size w ((w.alloc (.cells #[.string a] 9)).alloc (.cells #[.string t] 9)) := belB
  refine indexFuncR_any 85 (enters_of Tryz.func85 (by kernel_rfl) rfl) _ _ (fun x => mtX x.r a t) A n c L _ (fun x hx W hb' => ?_) (hL.keep hb) (by omega)
  exact choose1_any x a t _ _ W ((hL.each x hx).keep (bstep hb hb')) (cell_keep hb' (alloc2_cell w #[.string a] _ _ (k := 0) rfl)) (cell_keep hb' ((cell_of_row _ _ 0 _ _ _ (heap_alloc2_new w _ _)).trans rfl)) (hf.p x hx) (hf.t x hx) ha ht (Env.keep hE (bstep hb hb'))
 have hmf : ∀ (fn : Fn) (first cap : Array Value) (w : World), (Instr.makeFunc fn first cap).run Tryz.prog w = .ok (.func fn first cap) w := fun _ _ _ _ => rfl
 have HI := Lib.hid hi
 clear hi hL hE hf
 generalize chooseX L a t = v at *
 go_enter Tryz.func25, Tryz.ntmps25
 go_wp2_with (go_at_call 84; refine HI.out.mono ?_; rintro e w2 ⟨rfl, hb2⟩)
 go_ret
 exact ⟨rfl, belB⟩
end Go.Proofs.YtjhlpkhfdghngaaGreatDoor
namespace Go.Proofs.YtjhlpkhfdghngaaGreatDoor
open Go.RowKit Go.Sort
set_option linter.unusedVariables false
set_option linter.unusedSimpArgs false
set_option maxRecDepth 100000
theorem join_length (l : List BL) : (Lib.join l [44]).length + 1 = if l = [] then 1 else Lib.lens l + l.length := by
 cases l with
 | nil => rfl
 | cons x l =>
  rw [if_neg (by simp), Lib.join_cons, List.length_append, Lib.joinTail_length]
  simp only [Lib.lens, List.map_cons, List.sum_cons, List.length_cons, List.length_nil, Nat.zero_add, Nat.one_mul]
  omega
theorem tags_sub {ps qs : List ByteArray} {T : ByteArray} (h : tagsR qs = (T, 0)) (hs : ∀ p ∈ ps, p ∈ qs) : (tagsR ps).2 = 0 := by
 obtain ⟨h1, h2, _⟩ := tagsR_ok h
 obtain ⟨a1, a2⟩ := tagZ_spec ps
 obtain ⟨b1, b2⟩ := tagZ_spec qs
 have hsub := lens_sub (tagZ ps) (tagZ qs) (up_nodup a1) (fun a ha => by
  rw [b2]
  obtain ⟨p, hp, rfl⟩ := List.mem_map.1 ((a2 a).1 ha)
  exact List.mem_map_of_mem (hs p hp))
 have hp := join_length (tagZ ps)
 have hq := join_length (tagZ qs)
 have e : (tagsL ps).length ≤ (tagsL qs).length := by
  show (Lib.join (tagZ ps) [44]).length ≤ (Lib.join (tagZ qs) [44]).length
  by_cases hn : tagZ ps = []
  ·rw [hn, Lib.join_nil]; exact Nat.zero_le _
  ·have hn2 : tagZ qs ≠ [] := fun e => by
    rw [e] at hsub
    have := hsub.2
    exact hn (List.eq_nil_of_length_eq_zero (by simpa using this))
   rw [if_neg hn] at hp
   rw [if_neg hn2] at hq
   omega
 unfold tagsR
 rw [if_neg, if_neg (by omega)]
 simp only [List.any_eq_true, not_exists]
 rintro p ⟨hp, hp2⟩
 have := List.any_eq_false.1 h1 p (hs p hp)
 exact this hp2
end Go.Proofs.YtjhlpkhfdghngaaGreatDoor
namespace Go.Proofs.YtjhlpkhfdghngaaGreatDoor
open Go.RowKit Go.Sort
set_option linter.unusedVariables false
set_option linter.unusedSimpArgs false
set_option maxRecDepth 100000
attribute [local go_sem] Oper.semAt_some
theorem ints_at {xs : List Int} {k : Nat} {u : Value} (h : (xs.map (Value.int .i64))[k]? = some u) : ∃ x, xs[k]? = some x ∧ u = .int .i64 x := by
 rw [List.getElem?_map, Option.map_eq_some_iff] at h
 obtain ⟨x, hx, rfl⟩ := h
 exact ⟨x, hx, rfl⟩
end Go.Proofs.YtjhlpkhfdghngaaGreatDoor
namespace Go.Proofs.YtjhlpkhfdghngaaGreatDoor
open Go.RowKit Go.Sort
set_option linter.unusedVariables false
set_option linter.unusedSimpArgs false
set_option maxRecDepth 100000
theorem e7 : validC (cIn []) = true := by kernel_rfl
theorem e8 : validC (cIn allSites) = true := by kernel_rfl
end Go.Proofs.YtjhlpkhfdghngaaGreatDoor
namespace Go.Proofs.YtjhlpkhfdghngaaGreatDoor
open Go.RowKit Go.Sort
set_option linter.unusedVariables false
set_option linter.unusedSimpArgs false
set_option maxRecDepth 100000
set_option maxHeartbeats 4000000 in
theorem rFew22_head (x : RuleM) (w : World) (hR : RuleReads w x) (hbad : (decide (x.r.name.size ≤ 200) && decide (x.r.pat.size ≤ 200) && decide (x.r.prog.size ≤ 200) && decide (x.r.tags.length ≤ 10) && decide (x.r.vary.length ≤ 10) && fewCR x.r.allow) = false) :
  Calls Tryz.prog 40 #[x.val] w (Ret w (.bool false)) := by
 have cF := fun W (hb : Below w.heap.size w W) => rFew_any x.r.allow.fr x.r.allow.till x.r.allow.us x.r.allow.pat x.m.A x.m.B x.m.S x.r.allow.cl.length x.m.ca x.r.allow.co.length x.m.cb x.r.allow.si.length x.m.cs x.r.allow.cl x.r.allow.co W (hR.allow.cl.keep hb) (hR.allow.co.keep hb)
 have hfc : fewC x.r.allow.cl.length x.r.allow.co.length x.r.allow.si.length x.r.allow.pat x.r.allow.cl x.r.allow.co = fewCR x.r.allow := rfl
 rw [hfc] at cF
 generalize fewCR x.r.allow = fc at *
 rw [RuleM.val_eq]
 have HF := Lib.hid cF
 clear cF hR hfc
 by_cases h0 : x.r.name.size ≤ 200
 rotate_left
 ·have d0 : decide ((200 : Int) < (x.r.name.size : Int)) = true := decide_eq_true (by omega)
  clear hbad
  go_enter Tryz.func40, Tryz.ntmps40
  go_wp2
  go_ret
  exact ⟨rfl, belB⟩
 have d0 : decide ((200 : Int) < (x.r.name.size : Int)) = false := decide_eq_false (by omega)
 by_cases h1 : x.r.pat.size ≤ 200
 rotate_left
 ·have d1 : decide ((200 : Int) < (x.r.pat.size : Int)) = true := decide_eq_true (by omega)
  clear hbad
  go_enter Tryz.func40, Tryz.ntmps40
  go_wp2
  go_ret
  exact ⟨rfl, belB⟩
 have d1 : decide ((200 : Int) < (x.r.pat.size : Int)) = false := decide_eq_false (by omega)
 by_cases h2 : x.r.prog.size ≤ 200
 rotate_left
 ·have d2 : decide ((200 : Int) < (x.r.prog.size : Int)) = true := decide_eq_true (by omega)
  clear hbad
  go_enter Tryz.func40, Tryz.ntmps40
  go_wp2
  go_ret
  exact ⟨rfl, belB⟩
 have d2 : decide ((200 : Int) < (x.r.prog.size : Int)) = false := decide_eq_false (by omega)
 by_cases h3 : x.r.tags.length ≤ 10
 rotate_left
 ·have d3 : decide ((10 : Int) < (x.r.tags.length : Int)) = true := decide_eq_true (by omega)
  clear hbad
  go_enter Tryz.func40, Tryz.ntmps40
  go_wp2
  go_ret
  exact ⟨rfl, belB⟩
 have d3 : decide ((10 : Int) < (x.r.tags.length : Int)) = false := decide_eq_false (by omega)
 by_cases h4 : x.r.vary.length ≤ 10
 rotate_left
 ·have d4 : decide ((10 : Int) < (x.r.vary.length : Int)) = true := decide_eq_true (by omega)
  clear hbad
  go_enter Tryz.func40, Tryz.ntmps40
  go_wp2
  go_ret
  exact ⟨rfl, belB⟩
 have d4 : decide ((10 : Int) < (x.r.vary.length : Int)) = false := decide_eq_false (by omega)
 obtain rfl : fc = false := by simpa [h0, h1, h2, h3, h4] using hbad
 clear hbad
 go_enter Tryz.func40, Tryz.ntmps40
 go_wp2_with (go_at_call 105; refine (HF.out _ belB).mono ?_; rintro e w2 ⟨rfl, hb2⟩)
 go_ret
 exact ⟨rfl, belB⟩
end Go.Proofs.YtjhlpkhfdghngaaGreatDoor
namespace Go.Proofs.YtjhlpkhfdghngaaGreatDoor
open Go.RowKit Go.Sort
set_option linter.unusedVariables false
set_option linter.unusedSimpArgs false
set_option maxRecDepth 100000
set_option maxHeartbeats 8000000 in
theorem rFew22_tail (x : RuleM) (w : World) (hR : RuleReads w x) (hgood : (decide (x.r.name.size ≤ 200) && decide (x.r.pat.size ≤ 200) && decide (x.r.prog.size ≤ 200) && decide (x.r.tags.length ≤ 10) && decide (x.r.vary.length ≤ 10) && fewCR x.r.allow) = true) :
  Calls Tryz.prog 40 #[x.val] w (Ret w (.bool (x.r.tags.all (fun x : ByteArray => decide (x.size ≤ 200)) && x.r.vary.all fewVy))) := by
 have cF := fun W (hb : Below w.heap.size w W) => rFew_any x.r.allow.fr x.r.allow.till x.r.allow.us x.r.allow.pat x.m.A x.m.B x.m.S x.r.allow.cl.length x.m.ca x.r.allow.co.length x.m.cb x.r.allow.si.length x.m.cs x.r.allow.cl x.r.allow.co W (hR.allow.cl.keep hb) (hR.allow.co.keep hb)
 have hfc : fewC x.r.allow.cl.length x.r.allow.co.length x.r.allow.si.length x.r.allow.pat x.r.allow.cl x.r.allow.co = fewCR x.r.allow := rfl
 rw [hfc] at cF
 generalize fewCR x.r.allow = fc at *
 simp only [Bool.and_eq_true, decide_eq_true_eq] at hgood
 obtain ⟨⟨⟨⟨⟨h0, h1⟩, h2⟩, h3⟩, h4⟩, rfl⟩ := hgood
 have d0 : decide ((200 : Int) < (x.r.name.size : Int)) = false := decide_eq_false (by omega)
 have d1 : decide ((200 : Int) < (x.r.pat.size : Int)) = false := decide_eq_false (by omega)
 have d2 : decide ((200 : Int) < (x.r.prog.size : Int)) = false := decide_eq_false (by omega)
 have d3 : decide ((10 : Int) < (x.r.tags.length : Int)) = false := decide_eq_false (by omega)
 have d4 : decide ((10 : Int) < (x.r.vary.length : Int)) = false := decide_eq_false (by omega)
 obtain ⟨V, hV⟩ : ∃ V, V = (x.r.tags.all (fun x : ByteArray => decide (x.size ≤ 200)) && x.r.vary.all fewVy) := ⟨_, rfl⟩
 rw [← hV]
 rw [RuleM.val_eq]
 have hA := hR.tags
 have hsame := hR.same
 have HF := Lib.hid cF; have HV := Lib.hid hV; have HA := Lib.hid hA; have HR := Lib.hid hR; have HSM := Lib.hid hsame
 have hvl : x.L.length = x.r.vary.length := by rw [← hsame, List.length_map]
 have HVL := Lib.hid hvl
 clear cF hR hfc hV hA hsame hvl h0 h1 h2
 go_enter Tryz.func40, Tryz.ntmps40
 go_wp2_with (go_at_call 105; refine (HF.out _ belB).mono ?_; rintro e w2 ⟨rfl, hb2⟩; have y2 : w2.cell? ⟨w.heap.size, 2, none⟩ = some (.slice x.T x.r.tags.length x.ct) := cell_keep hb2 ((cell_of_row _ _ 2 _ _ _ (heap_alloc_new w _)).trans rfl); have y7 : w2.cell? ⟨w.heap.size, 7, none⟩ = some (.slice x.V x.r.vary.length x.cv) := cell_keep hb2 ((cell_of_row _ _ 7 _ _ _ (heap_alloc_new w _)).trans rfl))
 have hbw2 : Below w.heap.size w w2 := belB
 clear d0 d1 d2 d3 d4 HF
 obtain ⟨n, hn⟩ : ∃ n, n = x.r.tags.length := ⟨_, rfl⟩
 obtain ⟨m, hm⟩ : ∃ m, m = x.r.vary.length := ⟨_, rfl⟩
 rw [← hn] at y2 HA h3
 rw [← hm] at y7 h4 HVL
 have HN := Lib.hid hn; have HMM := Lib.hid hm
 clear hn hm
 go_loopw [3] (fun vi wr => ∃ k : Nat, vi = .int .i64 k ∧ k ≤ n ∧ Hid ((x.r.tags.take k).all (fun x : ByteArray => decide (x.size ≤ 200)) = true) ∧ wr.cell? ⟨w.heap.size, 2, none⟩ = some (.slice x.T n x.ct) ∧ wr.cell? ⟨w.heap.size, 7, none⟩ = some (.slice x.V m x.cv) ∧ Below w.heap.size w wr ∧ w.heap.size < wr.heap.size) (fun i _ => n - (intOf i).toNat)
 case atStart => exact ⟨0, rfl, Nat.zero_le _, Lib.hid (by simp), y2, y7, hbw2, cell_lt y2⟩
 case round =>
  clear y2 y7 hbw2 hb2
  obtain ⟨k, rfl, hk, HK, y2, y7, hbr, hgr⟩ := hrel
  by_cases hlt : k < n
  ·obtain ⟨t, ht⟩ : ∃ t, x.r.tags[k]? = some t := ⟨_, List.getElem?_eq_getElem (by have := HN.out; omega)⟩
   obtain ⟨b, o, hT, hcell⟩ := (HA.out.keep hbr).2 (by omega)
   rw [hT] at y2
   have hc1 : wr.cell? ⟨b, o + k, none⟩ = some (.string t) := hcell k _ (by simp [ht])
   have hk0 : (0 : Int) ≤ (k : Int) := by omega
   have hk1 : (k : Int) < (n : Int) := by omega
   by_cases hs : t.size ≤ 200
   ·have HK2 : Hid ((x.r.tags.take (k + 1)).all (fun x : ByteArray => decide (x.size ≤ 200)) = true) := Lib.hid (all_take2 HK.out ht (by simpa using hs))
    have d5 : decide ((200 : Int) < (t.size : Int)) = false := decide_eq_false (by omega)
    have HTT := Lib.hid hT
    clear hcell ht HK hT
    go_wp2
    exact ⟨⟨k + 1, by go_num, by omega, HK2, by rw [HTT.out]; exact y2, y7, hbr, hgr⟩, by simp [intOf]; omega⟩
   ·obtain rfl : V = false := by rw [HV.out, all_false2 ht (by simpa using hs)]; rfl
    have d5 : decide ((200 : Int) < (t.size : Int)) = true := decide_eq_true (by omega)
    clear hcell ht HK hT
    go_wp2
    go_ret
    exact ⟨rfl, hbr⟩
  ·obtain rfl : k = n := by omega
   have hall : x.r.tags.all (fun x : ByteArray => decide (x.size ≤ 200)) = true := by
    have := HK.out
    rwa [List.take_of_length_le (by have := HN.out; omega)] at this
   have hv3 : V = x.r.vary.all fewVy := by rw [HV.out, hall, Bool.true_and]
   have HV2 := Lib.hid hv3
   clear hall hv3 HK HV
   go_wp2
   obtain ⟨wo, rfl⟩ : ∃ wo : World, wo = wr := ⟨_, rfl⟩
   clear y2 HA
   go_loopw [4] (fun vi wz => ∃ j : Nat, vi = .int .i64 j ∧ j ≤ m ∧ Hid ((x.r.vary.take j).all fewVy = true) ∧ wz.cell? ⟨w.heap.size, 7, none⟩ = some (.slice x.V m x.cv) ∧ Below w.heap.size w wz ∧ w.heap.size < wz.heap.size) (fun i _ => m - (intOf i).toNat)
   case atStart => exact ⟨0, rfl, Nat.zero_le _, Lib.hid (by simp), y7, hbr, hgr⟩
   case round =>
    clear y7 hbr hgr
    obtain ⟨j, rfl, hj, HJ, y7, hbr, hgr⟩ := hrel
    by_cases hlt2 : j < m
    ·obtain ⟨y, hy⟩ : ∃ y, x.L[j]? = some y := ⟨_, List.getElem?_eq_getElem (by have := HVL.out; omega)⟩
     have hxv : x.r.vary[j]? = some y.v := by rw [← HSM.out, List.getElem?_map, hy]; rfl
     obtain ⟨b, o, hVV, hcell⟩ := Reads.row (HR.out.vary.keep hbr) (fun a _ => a.cells_len) (by have := HVL.out; have := HMM.out; omega) hy
     have hyr := (HR.out.each y (List.mem_of_getElem? hy))
     rw [hVV] at y7
     have e0 : wr.cell? ⟨b, o + j * 3, none⟩ = some (.string y.v.header) := hcell 0 _ rfl
     have e1 : wr.cell? ⟨b, o + j * 3 + 1, none⟩ = some (.slice y.A y.v.values.length y.c) := hcell 1 _ rfl
     have e2 : wr.cell? ⟨b, o + j * 3 + 2, none⟩ = some (.string y.v.dflt) := hcell 2 _ rfl
     have hj0 : (0 : Int) ≤ (j : Int) := by omega
     have hj1 : (j : Int) < (m : Int) := by omega
     have HYR := Lib.hid hyr; have HVV := Lib.hid hVV
     clear hcell hy hyr hVV
     by_cases g0 : y.v.header.size ≤ 200
     rotate_left
     ·obtain rfl : V = false := by rw [HV2.out, all_false2 hxv (by simp [fewVy, g0])]
      have dg0 : decide ((200 : Int) < (y.v.header.size : Int)) = true := decide_eq_true (by omega)
      clear HJ hxv
      go_wp2
      go_ret
      exact ⟨rfl, belB⟩
     have dg0 : decide ((200 : Int) < (y.v.header.size : Int)) = false := decide_eq_false (by omega)
     by_cases g1 : y.v.dflt.size ≤ 200
     rotate_left
     ·obtain rfl : V = false := by rw [HV2.out, all_false2 hxv (by simp [fewVy, g1])]
      have dg1 : decide ((200 : Int) < (y.v.dflt.size : Int)) = true := decide_eq_true (by omega)
      clear HJ hxv
      go_wp2
      go_ret
      exact ⟨rfl, belB⟩
     have dg1 : decide ((200 : Int) < (y.v.dflt.size : Int)) = false := decide_eq_false (by omega)
     by_cases g2 : y.v.values.length ≤ 10
     rotate_left
     ·obtain rfl : V = false := by rw [HV2.out, all_false2 hxv (by simp [fewVy, g2])]
      have dg2 : decide ((10 : Int) < (y.v.values.length : Int)) = true := decide_eq_true (by omega)
      clear HJ hxv
      go_wp2
      go_ret
      exact ⟨rfl, belB⟩
     have dg2 : decide ((10 : Int) < (y.v.values.length : Int)) = false := decide_eq_false (by omega)
     have HXV := Lib.hid hxv
     clear hxv
     go_wp2
     obtain ⟨wv, hwv⟩ : ∃ wv : World, wv = wr := ⟨_, rfl⟩
     have z7 : (wr.alloc (.cells #[.string y.v.header, .slice y.A y.v.values.length y.c, .string y.v.dflt] 99)).cell? ⟨w.heap.size, 7, none⟩ = some (.slice (some ⟨b, o, none⟩) m x.cv) := cell_keep ((Below.refl wr.heap.size wr).alloc (Nat.le_refl _) _) y7
     have z1 : (wr.alloc (.cells #[.string y.v.header, .slice y.A y.v.values.length y.c, .string y.v.dflt] 99)).cell? ⟨wr.heap.size, 1, none⟩ = some (.slice y.A y.v.values.length y.c) := (cell_of_row _ _ 1 _ _ _ (heap_alloc_new wr _)).trans rfl
     have hb3 : Below w.heap.size w (wr.alloc (.cells #[.string y.v.header, .slice y.A y.v.values.length y.c, .string y.v.dflt] 99)) := belB
     clear e0 e1 e2 dg0 dg1 dg2 y7
     generalize hg : wr.heap.size = g at *
     have hgg : w.heap.size < g := hgr
     obtain ⟨q, hq⟩ : ∃ q, q = y.v.values.length := ⟨_, rfl⟩
     rw [← hq] at z1 z7 hb3 g2 ⊢
     have HQ := Lib.hid hq
     clear hq
     go_loopw [6] (fun vi wy => ∃ i : Nat, vi = .int .i64 i ∧ i ≤ q ∧ Hid ((y.v.values.take i).all (fun x : ByteArray => decide (x.size ≤ 200)) = true) ∧ wy.cell? ⟨w.heap.size, 7, none⟩ = some (.slice (some ⟨b, o, none⟩) m x.cv) ∧ wy.cell? ⟨g, 1, none⟩ = some (.slice y.A q y.c) ∧ Below w.heap.size w wy) (fun i _ => q - (intOf i).toNat)
     case atStart => exact ⟨0, rfl, Nat.zero_le _, Lib.hid (by simp), z7, z1, hb3⟩
     case round =>
      clear z7 z1 hb3 hbr
      obtain ⟨i, rfl, hi, HK3, z7, z1, hbr⟩ := hrel
      by_cases hlt3 : i < q
      ·obtain ⟨t, ht⟩ : ∃ t, y.v.values[i]? = some t := ⟨_, List.getElem?_eq_getElem (by have := HQ.out; omega)⟩
       obtain ⟨b3, o3, hYA, hcell⟩ := (Reads.keep HYR.out hbr).2 (by have := HQ.out; omega)
       rw [hYA] at z1
       have hc1 : wr.cell? ⟨b3, o3 + i, none⟩ = some (.string t) := hcell i _ (by simp [ht])
       have hi0 : (0 : Int) ≤ (i : Int) := by omega
       have hi1 : (i : Int) < (q : Int) := by omega
       by_cases hs : t.size ≤ 200
       ·have HK4 : Hid ((y.v.values.take (i + 1)).all (fun x : ByteArray => decide (x.size ≤ 200)) = true) := Lib.hid (all_take2 HK3.out ht (by simpa using hs))
        have d5 : decide ((200 : Int) < (t.size : Int)) = false := decide_eq_false (by omega)
        have HTT := Lib.hid hYA
        clear hcell ht HK3 hYA
        go_wp2
        exact ⟨⟨i + 1, by go_num, by omega, HK4, z7, by rw [HTT.out]; exact z1, hbr⟩, by simp [intOf]; omega⟩
       ·obtain rfl : V = false := by rw [HV2.out, all_false2 HXV.out (by simp [fewVy, all_false2 ht (p := (fun x : ByteArray => decide (x.size ≤ 200))) (by simpa using hs)])]
        have d5 : decide ((200 : Int) < (t.size : Int)) = true := decide_eq_true (by omega)
        clear hcell ht HK3 hYA
        go_wp2
        go_ret
        exact ⟨rfl, hbr⟩
      ·obtain rfl : i = q := by omega
       have hall : y.v.values.all (fun x : ByteArray => decide (x.size ≤ 200)) = true := by
        have := HK3.out
        rwa [List.take_of_length_le (by have := HQ.out; omega)] at this
       have hfv : fewVy y.v = true := by
        unfold fewVy
        rw [hall]
        have := HQ.out
        simp [g0, g1, ← HQ.out, g2]
       have HJ2 : Hid ((x.r.vary.take (j + 1)).all fewVy = true) := Lib.hid (all_take2 HJ.out HXV.out hfv)
       clear hall hfv HK3
       go_wp2
       exact ⟨⟨j + 1, by go_num, by omega, HJ2, by rw [HVV.out]; exact z7, hbr, cell_lt z7⟩, by simp [intOf]; omega⟩
    ·obtain rfl : j = m := by omega
     have hall : x.r.vary.all fewVy = true := by
      have := HJ.out
      rwa [List.take_of_length_le (by have := HMM.out; omega)] at this
     obtain rfl : V = true := by rw [HV2.out, hall]
     clear hall HJ
     go_wp2
     go_ret
     exact ⟨rfl, hbr⟩
theorem rFew22_any (x : RuleM) (w : World) (hR : RuleReads w x) : Calls Tryz.prog 40 #[x.val] w (Ret w (.bool (fewR x.r))) := by
 unfold fewR
 cases hc : (decide (x.r.name.size ≤ 200) && decide (x.r.pat.size ≤ 200) && decide (x.r.prog.size ≤ 200) && decide (x.r.tags.length ≤ 10) && decide (x.r.vary.length ≤ 10) && fewCR x.r.allow)
 ·rw [Bool.false_and, Bool.false_and]; exact rFew22_head x w hR hc
 ·rw [Bool.true_and]; exact rFew22_tail x w hR hc
end Go.Proofs.YtjhlpkhfdghngaaGreatDoor
namespace Go.Proofs.YtjhlpkhfdghngaaGreatDoor
open Go.RowKit Go.Sort
set_option linter.unusedVariables false
set_option linter.unusedSimpArgs false
set_option maxRecDepth 100000
set_option maxHeartbeats 4000000 in
theorem rFewRules22_any (p : RuleM → Bool) (A : Option Addr) (n c : Nat) (L : List RuleM) (most : Int) (w : World) (hL : RulesRead w A n L) (hn : n ≤ 9223372036854775807)
  (cP : ∀ x ∈ L, ∀ W, Below w.heap.size w W → Calls Tryz.prog 40 #[x.val] W (Ret W (.bool (p x)))) :
  Calls Tryz.prog 10 #[.slice A n c, .int .i64 most] w (Ret w (.bool (L.all p && decide ((n : Int) ≤ most)))) := by
 have hl : L.length = n := hL.len
 obtain ⟨V, hV⟩ : ∃ V, V = L.all p := ⟨_, rfl⟩
 rw [← hV]
 have HP := Lib.hid cP; have HA := Lib.hid hL; have HL := Lib.hid hl; have HV := Lib.hid hV
 clear cP hL hl hV
 go_enter Tryz.func10, Tryz.ntmps10
 go_wp2
 go_loopw [5] (fun i wr => ∃ k : Nat, k ≤ n ∧ i = .int .i64 k ∧ Hid (V = (L.drop k).all p) ∧ Below w.heap.size w wr) (fun i _ => n - (intOf i).toNat)
 case atStart => exact ⟨0, by omega, rfl, Lib.hid (by rw [HV.out]; rfl), Below.refl _ _⟩
 case round =>
  obtain ⟨k, hk, rfl, HI, hb⟩ := hrel
  by_cases hlt : k < n
  ·obtain ⟨x, hx⟩ : ∃ x, L[k]? = some x := ⟨_, List.getElem?_eq_getElem (by have := HL.out; omega)⟩
   obtain ⟨_, b, o, rfl, hcell⟩ := (HA.out.keep hb).at_ hx
   have hld := rule_load wr b (o + k * 18) x hcell
   have hc := HP.out x (List.mem_of_getElem? hx) wr hb
   have hk0 : (0 : Int) ≤ (k : Int) := by omega
   have hk1 : (k : Int) < (n : Int) := by omega
   clear hcell
   have hxv : x.val = x.val := rfl
   generalize x.val = xv at hld hc
   clear hxv
   have HLD := Lib.hid hld
   clear hld
   cases hpx : p x
   ·rw [hpx] at hc
    have HC := Lib.hid hc
    have hVf : V = false := by rw [HI.out]; exact all_stop _ _ _ _ hx hpx
    subst hVf
    clear hc hx hpx
    rw [Bool.false_and]
    go_wp2_with (first | (refine wpList_load_addr rfl _ _ rfl ⟨b, o + k * 18, none⟩ xv rfl HLD.out ?_) | (go_at_call 40; refine (HC.out).mono ?_; rintro e w2 ⟨rfl, hb2⟩))
    go_ret
    exact ⟨rfl, bstep hb hb2⟩
   ·rw [hpx] at hc
    have HC := Lib.hid hc
    have hVs : V = (L.drop (k + 1)).all p := by rw [HI.out]; exact all_step _ _ _ _ hx hpx
    have HI2 := Lib.hid hVs
    clear hc hx hpx hVs
    go_wp2_with (first | (refine wpList_load_addr rfl _ _ rfl ⟨b, o + k * 18, none⟩ xv rfl HLD.out ?_) | (go_at_call 40; refine (HC.out).mono ?_; rintro e w2 ⟨rfl, hb2⟩))
    exact ⟨⟨k + 1, by omega, by go_num, HI2, bstep hb hb2⟩, by simp [intOf]; omega⟩
  ·have hVt : V = true := by rw [HI.out, List.drop_eq_nil_of_le (by have := HL.out; omega)]; rfl
   subst hVt
   rw [Bool.true_and]
   go_wp2
   go_ret
   exact ⟨rfl, hb⟩
end Go.Proofs.YtjhlpkhfdghngaaGreatDoor
namespace Go.Proofs.YtjhlpkhfdghngaaGreatDoor
open Go.RowKit Go.Sort
set_option linter.unusedVariables false
set_option linter.unusedSimpArgs false
set_option maxRecDepth 100000
theorem shadow_not {l : List RuleP} {i : Nat} {r : RuleP} (hr : l[i]? = some r) {s : ByteArray} (h : GapPost r.1 (beforeR l i r.2) s false) (a t : ByteArray) : chooseR l a t ≠ some i := by
 intro hc
 obtain ⟨r', hr', h1, h2⟩ := (choose_iff l a t i).1 hc
 obtain rfl : r = r' := Option.some.inj (hr.symm.trans hr')
 unfold mtR at h1
 rw [Bool.and_eq_true] at h1
 obtain ⟨q, hq, hm⟩ := gap_not h a h1.1
 obtain ⟨j, z, hj, hz, hs, rfl⟩ := before_mem.1 hq
 have := h2 j z hj hz
 unfold mtR at this
 rw [hm, Bool.true_and] at this
 have h3 : z.2.all (hasTagB t) = true := all_has.2 fun x hx => all_has.1 h1.2 x ((subB_iff _ _).1 hs x hx)
 rw [h3] at this
 cases this
theorem shadow_yes {l : List RuleP} {i : Nat} {r : RuleP} (hr : l[i]? = some r) {s T : ByteArray} (hT : tagsR r.2 = (T, 0)) (h : GapPost r.1 (beforeR l i r.2) s true) : chooseR l s T = some i := by
 obtain ⟨h1, h2⟩ := gap_found h
 refine (choose_iff l s T i).2 ⟨r, hr, ?_, fun j q hj hq => ?_⟩
 ·unfold mtR
  rw [h1, Bool.true_and]
  exact all_has.2 fun x hx => hasTag_tags hT x hx
 ·cases hm : mtR q s T
  ·rfl
  ·exfalso
   unfold mtR at hm
   rw [Bool.and_eq_true] at hm
   have hs : subB q.2 r.2 = true := (subB_iff _ _).2 fun x hx => (tags_mem hT x).1 (all_has.1 hm.2 x hx)
   have := h2 q.1 (before_mem.2 ⟨j, q, hj, hq, hs, rfl⟩)
   rw [this] at hm
   exact absurd hm.1 (by decide)
theorem shadow_none {l : List RuleP} {i : Nat} {r : RuleP} (hr : l[i]? = some r) (hT : (tagsR r.2).2 ≠ 0) (a : ByteArray) {ts : List ByteArray} {t : ByteArray} (ht : tagsR ts = (t, 0)) : chooseR l a t ≠ some i := by
 intro hc
 obtain ⟨r', hr', h1, _⟩ := (choose_iff l a t i).1 hc
 obtain rfl : r = r' := Option.some.inj (hr.symm.trans hr')
 unfold mtR at h1
 rw [Bool.and_eq_true] at h1
 exact hT (tags_sub ht fun x hx => (tags_mem ht x).1 (all_has.1 h1.2 x hx))
end Go.Proofs.YtjhlpkhfdghngaaGreatDoor
namespace Go.Proofs.YtjhlpkhfdghngaaGreatDoor
open Go.RowKit Go.Sort
set_option linter.unusedVariables false
set_option linter.unusedSimpArgs false
set_option maxRecDepth 100000
theorem tags_le (ps : List ByteArray) : (tagsR ps).1.size ≤ 4096 := by
 unfold tagsR
 split
 ·decide
 ·split
  ·decide
  ·rename_i h
   rw [toB_size]
   omega
theorem canon_two (s : ByteArray) : ∃ (a : ByteArray) (er : Int), canonV s = .tuple #[.string a, .int .i64 er] ∧ a.size ≤ 4096 := by
 unfold canonV textV
 split
 ·split
  ·rename_i h
   refine ⟨_, _, rfl, ?_⟩
   unfold formedB at h
   simp only [Bool.and_eq_true, decide_eq_true_eq] at h
   have h2 := h.2
   rw [show (W06 _ _ _).length = (ByteArray.mk (W06 (parseB s).1.cust (parseB s).1.path (parseB s).1.query).toArray).size from by rw [Lib.size_eq]] at h2
   exact h2
  ·exact ⟨_, _, rfl, by decide⟩
 ·exact ⟨_, _, rfl, by decide⟩
theorem idx_from {α : Type} (p : α → Bool) : ∀ (l : List α) (b : Nat), idxA p l b = -1 ∨ (b : Int) ≤ idxA p l b
 | [], _ => .inl rfl
 | y :: l, b => by
  have ih := idx_from p l (b + 1)
  unfold idxA
  split
  ·right; omega
  ·rcases ih with h | h
   ·exact .inl h
   ·right; omega
theorem idx_link (a t : ByteArray) : ∀ (l : List RuleM) (b k : Nat), idxA (fun x => mtX x.r a t) l b = ((b + k : Nat) : Int) ↔ (l.map ruleP).findIdx? (fun r => mtR r a t) = some k
 | [], b, k => by
  constructor
  ·intro h
   unfold idxA at h
   omega
  ·intro h
   simp at h
 | x :: l, b, k => by
  rw [List.map_cons, List.findIdx?_cons]
  unfold idxA
  have e : mtR (ruleP x) a t = mtX x.r a t := rfl
  rw [e]
  cases hx : mtX x.r a t
  ·have ih := idx_link a t l (b + 1)
   have hg := idx_from (fun x => mtX x.r a t) l (b + 1)
   rw [if_neg (by decide), if_neg (by decide)]
   cases k with
   | zero =>
    constructor
    ·intro h
     omega
    ·intro h
     cases hf : (l.map ruleP).findIdx? (fun r => mtR r a t) with
     | none => rw [hf] at h; cases h
     | some j => rw [hf] at h; simp at h
   | succ k =>
    rw [show b + (k + 1) = b + 1 + k by omega, ih k]
    cases hf : (l.map ruleP).findIdx? (fun r => mtR r a t) with
    | none => simp
    | some j => simp
  ·rw [if_pos rfl, if_pos rfl]
   constructor
   ·intro h
    have : k = 0 := by omega
    rw [this]
   ·intro h
    have h2 : 0 = k := Option.some.inj h
    rw [← h2]
    rfl
theorem choose_link (L : List RuleM) (a t : ByteArray) (k : Nat) : chooseX L a t = (k : Int) ↔ chooseR (L.map ruleP) a t = some k := by
 have h := idx_link a t L 0 k
 rwa [Nat.zero_add] at h
end Go.Proofs.YtjhlpkhfdghngaaGreatDoor
namespace Go.Proofs.YtjhlpkhfdghngaaGreatDoor
open Go.RowKit Go.Sort
set_option linter.unusedVariables false
set_option linter.unusedSimpArgs false
set_option maxRecDepth 100000
theorem word_wide {s : ByteArray} (hs : 64 < s.size) : isWordB s = false := by
 unfold isWordB
 rw [decide_eq_false (by omega : ¬ s.size ≤ 64)]
 simp
theorem name_wide {s : ByteArray} (hs : 64 < s.size) : isNameB s = false := by
 unfold isNameB
 rw [word_wide hs]
 rfl
theorem isWord_wide (s : ByteArray) (w : World) (hs : 64 < s.size) : Calls Tryz.prog 140 #[.string s] w (Ret w (.bool false)) := by
 go_enter Tryz.func140, Tryz.ntmps140
 go_wp2
 all_goals
  go_ret
  exact ⟨ret_bool (by simp [*]), belB⟩
theorem isName_wide (s : ByteArray) (w : World) (hs : 64 < s.size) : Calls Tryz.prog 78 #[.string s] w (Ret w (.bool false)) := by
 go_enter Tryz.func78, Tryz.ntmps78
 go_wp2_with (go_at_call 140; refine (isWord_wide _ _ hs).mono ?_; rintro e w1 ⟨rfl, hb1⟩)
 go_ret
 exact ⟨rfl, belB⟩
theorem notName_wide (x : ByteArray) (w : World) : Calls Tryz.prog 77 #[.string x] w (Ret w (.bool (!isNameB x))) := by
 rcases Nat.lt_or_ge 64 x.size with h | h
 ·rw [name_wide h]
  go_enter Tryz.func77, Tryz.ntmps77
  go_wp2_with (go_at_call 78; refine (isName_wide x _ h).mono ?_; rintro e w1 ⟨rfl, hb1⟩)
  go_ret
  exact ⟨rfl, belB⟩
 ·exact notName_any x w (by omega)
theorem tags_wide (A : Option Addr) (n c : Nat) (ps : List ByteArray) (w : World) (hR : Reads w 1 A n (ps.map .string)) (hn : ps.length ≤ 1000000) : Calls Tryz.prog 23 #[.slice A n c] w (Ret w (tagsV ps)) := by
 by_cases h : ∀ p ∈ ps, p.size ≤ 4294967281
 ·exact tags_any A n c ps w hR hn h
 have hpn : ps.length = n := by have := hR.1; simpa using this
 have ha : ps.any (fun x => !isNameB x) = true := by
  rw [List.any_eq_true]
  refine Classical.byContradiction fun hno => h fun p hp => ?_
  rcases Nat.lt_or_ge 64 p.size with h1 | h1
  ·exact absurd ⟨p, hp, by rw [name_wide h1]; rfl⟩ hno
  ·omega
 have cC := fun W h => containsFunc_any 77 (enters_of Tryz.func77 (by kernel_rfl) rfl) (fun x => !isNameB x) A n c ps W (fun x hx W' => notName_wide x W') h (by omega)
 have hv : tagsV ps = .tuple #[.string ⟨#[]⟩, .int .i64 1] := by
  unfold tagsV tagsR
  rw [if_pos ha]
 rw [ha] at cC
 rw [hv]
 have HC := Lib.hid cC; have HR := Lib.hid hR
 clear cC hR ha h hv hpn
 go_enter Tryz.func23, Tryz.ntmps23
 go_wp2_with (go_at_call 69; refine (HC.out _ (HR.out.keep belB)).mono ?_; rintro e w2 ⟨rfl, hb2⟩)
 go_ret2
 exact ⟨rfl, belB⟩
end Go.Proofs.YtjhlpkhfdghngaaGreatDoor
namespace Go.Proofs.YtjhlpkhfdghngaaGreatDoor
open Go.RowKit Go.Sort
set_option linter.unusedVariables false
set_option linter.unusedSimpArgs false
set_option maxRecDepth 100000
set_option maxHeartbeats 8000000 in
theorem lawShadows (A : Option Addr) (n c : Nat) (L : List RuleM) (k : Int) (ad : ByteArray) (B : Option Addr) (m d : Nat) (ts : List ByteArray) (w : World) (hL : RulesRead w A n L) (hn : n ≤ 9223372036854775807) (hcp : ∀ x ∈ L, RuleCaps x) (hnc : n ≤ c) (hk0 : 0 ≤ k) (hk1 : k ≤ 255)
  (hR : Reads w 1 B m (ts.map .string)) (hm : m ≤ 9223372036854775807) (hE : Env w) (hT : Tab w) :
  Calls Tryz.prog 5 #[.slice A n c, .int .u8 k, .string ad, .slice B m d] w (Ret w (.bool true)) := by
 have hl : L.length = n := hL.len
 have htl : ts.length = m := by have := hR.1; simpa using this
 have cF := fun W (hb : Below w.heap.size w W) => rFewRules22_any (fun x => fewR x.r) A n c L 10 W (hL.keep hb) hn (fun x hx W' hb' => rFew22_any x W' ((hL.each x hx).keep (bstep hb hb')))
 have cN := fun W (hb : Below w.heap.size w W) => san24_any W (hE.keep hb) (hT.keep hb)
 have HN := Lib.hid cN
 have HA := Lib.hid hL; have HL := Lib.hid hl; have HCP := Lib.hid hcp; have HE := Lib.hid hE; have HT := Lib.hid hT; have HTL := Lib.hid htl; have HR := Lib.hid hR
 clear cN hL hl hcp hE hT htl hR
 rcases Nat.eq_zero_or_pos n with h0 | h0
 ·subst h0
  generalize hv : (L.all (fun x => fewR x.r) && decide (((0 : Nat) : Int) ≤ 10)) = v at cF
  clear hv
  have HF := Lib.hid cF
  clear cF
  go_enter Tryz.func5, Tryz.ntmps5
  go_wp2_with (first | (go_at_call 10; refine (HF.out _ belB).mono ?_; rintro e wf ⟨rfl, hbf⟩) | (go_at_call 19; refine (HN.out _ belB).mono ?_; rintro e wn ⟨rfl, hbn⟩))
  go_ret
  exact ⟨rfl, belB⟩
 have e1 : ((n : Int) == 0) = false := beq_eq_false_iff_ne.2 (by omega)
 have e2 : decide ((n : Int) = 0) = false := decide_eq_false (by omega)
 cases hfv : (L.all (fun x => fewR x.r) && decide ((n : Int) ≤ 10))
 ·rw [hfv] at cF
  have HF := Lib.hid cF
  clear cF hfv
  go_enter Tryz.func5, Tryz.ntmps5
  go_wp2_with (first | (go_at_call 10; refine (HF.out _ belB).mono ?_; rintro e wf ⟨rfl, hbf⟩) | (go_at_call 19; refine (HN.out _ belB).mono ?_; rintro e wn ⟨rfl, hbn⟩))
  go_ret
  exact ⟨rfl, belB⟩
 rw [hfv] at cF
 have HF := Lib.hid cF
 rw [Bool.and_eq_true, decide_eq_true_eq, List.all_eq_true] at hfv
 obtain ⟨hff, hn10⟩ := hfv
 have HFF := Lib.hid hff
 clear cF hff
 rcases Nat.lt_or_ge 3000 ad.size with had | had
 ·go_enter Tryz.func5, Tryz.ntmps5
  go_wp2_with (first | (go_at_call 10; refine (HF.out _ belB).mono ?_; rintro e wf ⟨rfl, hbf⟩) | (go_at_call 19; refine (HN.out _ belB).mono ?_; rintro e wn ⟨rfl, hbn⟩))
  go_ret
  exact ⟨rfl, belB⟩
 rcases Nat.lt_or_ge 10 m with hm10 | hm10
 ·go_enter Tryz.func5, Tryz.ntmps5
  go_wp2_with (first | (go_at_call 10; refine (HF.out _ belB).mono ?_; rintro e wf ⟨rfl, hbf⟩) | (go_at_call 19; refine (HN.out _ belB).mono ?_; rintro e wn ⟨rfl, hbn⟩))
  go_ret
  exact ⟨rfl, belB⟩
 go_enter Tryz.func5, Tryz.ntmps5
 go_upto_region 3 with (first | (go_at_call 10; refine (HF.out _ belB).mono ?_; rintro e wf ⟨rfl, hbf⟩))
 clear e1 e2
 go_upto_region 4 with fail
 obtain ⟨j, hj⟩ : ∃ j : Nat, k % (n : Int) = (j : Int) := ⟨(k % n).toNat, (Int.toNat_of_nonneg (Int.emod_nonneg _ (by omega))).symm⟩
 have hjn : j < n := by have := Int.emod_lt_of_pos k (show (0 : Int) < n by omega); omega
 rw [hj]
 clear hj
 go_wp2_with fail
 refine (shadowed_any A n c (j : Int) L wf (HA.out.keep hbf) (fun x hx => fewR_fits (HFF.out x hx)) HCP.out hnc (by omega) (HE.out.keep hbf) (HT.out.keep hbf)).mono ?_
 rintro e w1 ⟨s, is, er, rfl, hr, hb1⟩
 replace hb1 := bstep hbf hb1
 clear hbf
 rcases hr with ⟨_, rfl, rfl, rfl⟩ | ⟨_, rfl, x, hx, hr⟩
 ·go_wp2_with (first | (go_at_call 19; refine (HN.out _ belB).mono ?_; rintro e wn ⟨rfl, hbn⟩))
  go_ret
  exact ⟨rfl, belB⟩
 rw [Int.toNat_natCast] at hx hr
 have hx2 : (L.map ruleP)[j]? = some (ruleP x) := by rw [List.getElem?_map, hx]; rfl
 have hxm := List.mem_of_getElem? hx
 have hxf := fewR_fits (HFF.out x hxm)
 have hrf : RulesFit L := ⟨by have := HL.out; omega, fun y hy => by have := (fewR_fits (HFF.out y hy)).pat; omega, fun y hy => by have := (fewR_fits (HFF.out y hy)).nt; omega⟩
 have hcho := fun (a t : ByteArray) (ha : a.size ≤ 4096) (ht : t.size ≤ 4096) W (hb : Below w.heap.size w W) => choose_any A n c L a t W (HA.out.keep hb) hrf (by omega) (by omega) (HE.out.keep hb)
 by_cases his : is = true
 ·subst his
  have hne : (tagsR ts).2 = 0 → ∀ a, chooseX L a (tagsR ts).1 ≠ (j : Int) := fun ht a h => by
   have h2 := (choose_link L a (tagsR ts).1 j).1 h
   rcases hr with ⟨h3, _⟩ | ⟨h3, g, hg, h4, _⟩
   ·exact shadow_none hx2 h3 a (ts := ts) (t := (tagsR ts).1) (by rw [← ht]) h2
   ·have hg2 : g = false := by cases g; rfl; cases hg
    subst hg2
    exact shadow_not hx2 (by rw [befK_eq]; exact h4) a _ h2
  obtain ⟨a, ae, hca, haz⟩ := canon_two ad
  have hcan := fun W (hb : Below w.heap.size w W) => canonical_any ad W (by omega) (HE.out.keep hb)
  rw [hca] at hcan
  have htag := fun W (hb : Below w.heap.size w W) => tags_wide B m d ts W (HR.out.keep hb) (by have := HTL.out; omega)
  unfold tagsV at htag
  have hch := hcho a (tagsR ts).1 haz (tags_le ts)
  have hq := fun h => hne h a
  generalize chooseX L a (tagsR ts).1 = q at hch hq
  generalize (tagsR ts).1 = T at *
  generalize (tagsR ts).2 = te at *
  have HC := Lib.hid hcan; have HG := Lib.hid htag; have HO := Lib.hid hch
  clear hcan htag hch hne hr hx hx2 hxm hxf hrf hcho hca haz HF HFF HCP HTL HL HR
  by_cases hte : te = 0
  ·have hq2 := hq hte
   subst hte
   clear hq
   by_cases hae : ae = 0
   ·subst hae
    have e3 : (q == (j : Int)) = false := beq_eq_false_iff_ne.2 hq2
    have e4 : (q != (j : Int)) = true := bne_iff_ne.2 hq2
    have e5 : decide (q = (j : Int)) = false := decide_eq_false hq2
    clear hq2
    go_wp2_with (first | (go_at_call 19; refine (HN.out _ belB).mono ?_; rintro e wn ⟨rfl, hbn⟩) | (go_at_call 23; refine (HG.out _ belB).mono ?_; rintro e wg ⟨rfl, hbg⟩) | (go_at_call 24; refine (HC.out _ belB).mono ?_; rintro e wc ⟨rfl, hbc⟩) | (go_at_call 25; refine (HO.out _ belB).mono ?_; rintro e wo ⟨rfl, hbo⟩))
    go_ret
    exact ⟨rfl, belB⟩
   ·have e3 : (ae == 0) = false := beq_eq_false_iff_ne.2 hae
    have e4 : (ae != 0) = true := bne_iff_ne.2 hae
    have e5 : decide (ae = 0) = false := decide_eq_false hae
    clear hq2 hae
    go_wp2_with (first | (go_at_call 19; refine (HN.out _ belB).mono ?_; rintro e wn ⟨rfl, hbn⟩) | (go_at_call 23; refine (HG.out _ belB).mono ?_; rintro e wg ⟨rfl, hbg⟩) | (go_at_call 24; refine (HC.out _ belB).mono ?_; rintro e wc ⟨rfl, hbc⟩) | (go_at_call 25; refine (HO.out _ belB).mono ?_; rintro e wo ⟨rfl, hbo⟩))
    go_ret
    exact ⟨rfl, belB⟩
  ·have e3 : (te == 0) = false := beq_eq_false_iff_ne.2 hte
   have e4 : (te != 0) = true := bne_iff_ne.2 hte
   have e5 : decide (te = 0) = false := decide_eq_false hte
   clear hq hte
   go_wp2_with (first | (go_at_call 19; refine (HN.out _ belB).mono ?_; rintro e wn ⟨rfl, hbn⟩) | (go_at_call 23; refine (HG.out _ belB).mono ?_; rintro e wg ⟨rfl, hbg⟩) | (go_at_call 24; refine (HC.out _ belB).mono ?_; rintro e wc ⟨rfl, hbc⟩) | (go_at_call 25; refine (HO.out _ belB).mono ?_; rintro e wo ⟨rfl, hbo⟩))
   go_ret
   exact ⟨rfl, belB⟩
 ·have his2 : is = false := by cases is; rfl; exact absurd rfl his
  subst his2
  clear his
  have hr2 : (tagsR x.r.tags).2 = 0 ∧ chooseX L s (tagsR x.r.tags).1 = (j : Int) ∧ s.size ≤ 4096 := by
   rcases hr with ⟨_, _, h⟩ | ⟨h3, g, hg, h4, h5⟩
   ·cases h
   ·have hg2 : g = true := by cases g; cases hg; rfl
    subst hg2
    refine ⟨h3, (choose_link L s _ j).2 ?_, h5⟩
    exact shadow_yes hx2 (T := (tagsR x.r.tags).1) (by rw [← h3]; rfl) (by rw [befK_eq]; exact h4)
  obtain ⟨h1, h2, h3⟩ := hr2
  have hch := hcho s (tagsR x.r.tags).1 h3 (tags_le _)
  rw [h2] at hch
  obtain ⟨hRR, b, o, rfl, hcell⟩ := (HA.out.keep hb1).at_ hx
  have htag := fun W (hb : Below w1.heap.size w1 W) => tags_any x.T x.r.tags.length x.ct x.r.tags W (hRR.tags.keep hb) (by have := hxf.nt; omega) (fun p hp => by have := hxf.t p hp; omega)
  unfold tagsV at htag
  rw [h1] at htag
  have hc2 := hcell 2 _ rfl
  generalize (tagsR x.r.tags).1 = T at *
  generalize x.r.tags.length = tn at *
  have hj0 : (0 : Int) ≤ (j : Int) := by omega
  have hj1 : (j : Int) < (n : Int) := by omega
  have HG := Lib.hid htag; have HO := Lib.hid hch
  clear htag hch hr hx hx2 hxm hxf hrf hcho HF HFF HCP HTL HL HR h1 h2 h3 hRR hcell
  go_wp2_with (first | (go_at_call 19; refine (HN.out _ belB).mono ?_; rintro e wn ⟨rfl, hbn⟩) | (go_at_call 23; refine (HG.out _ belB).mono ?_; rintro e wg ⟨rfl, hbg⟩) | (go_at_call 25; refine (HO.out _ belB).mono ?_; rintro e wo ⟨rfl, hbo⟩))
  go_ret
  exact ⟨rfl, belB⟩
end Go.Proofs.YtjhlpkhfdghngaaGreatDoor
namespace Go.Proofs.YtjhlpkhfdghngaaGreatDoor
open Go.RowKit Go.Sort
set_option linter.unusedVariables false
set_option linter.unusedSimpArgs false
set_option maxRecDepth 100000
theorem cellsI : Tryz.prog.cellsOf 3 = 1 := by kernel_rfl
section
variable {H : Type} {enc : TypeId × Value → H} {W : World} {base : Nat} {sp : Nat → Bool} {hd : Bool}
theorem ints_reads {fuel : Nat} {v : Value} {x : DataW H × List MemPlace} (h : DataW.trod enc Tryz.prog W base sp hd fuel 29 [v] = some x) : ∃ (A : Option Addr) (n c : Nat) (xs : List Int), v = .slice A n c ∧ xs.length = n ∧ Reads W 1 A n (xs.map (.int .i64)) := by
 rcases Go.Deep.open_slice Tryz.underlying29 h with ⟨h0, _⟩ | ⟨a, len, cap, m, n, D, Pl, hcs, hb, hl, hm, hmm, hx, hi⟩
 ·injection h0 with h0
  subst h0
  exact ⟨none, 0, 0, [], rfl, rfl, Reads.nil_ _ _ _⟩
 ·injection hcs with hcs
  subst hcs
  have hlm : len ≤ m := by rw [hmm]; split <;> omega
  obtain ⟨xs, h1, h2⟩ := list_of (p := fun i (s : Int) => W.cell? (a.add i) = some (.int .i64 s)) len (fun i hil => by
   obtain ⟨cs', hc, ht⟩ := hi i (by omega)
   rw [cellsI, Nat.mul_one] at hc
   obtain ⟨s, rfl, _, hs⟩ := DataW.trod_int Tryz.underlying3 ht
   have := (World.cells?_some hc).2.2 0 (by omega)
   exact ⟨s, by simpa [Addr.add] using this⟩)
  refine ⟨some a, len, cap, xs, rfl, h1, ⟨by simp [h1], fun hn => ?_⟩⟩
  obtain ⟨s0, hs0⟩ : ∃ s, xs[0]? = some s := ⟨_, List.getElem?_eq_getElem (by omega)⟩
  obtain ⟨b, o, rfl⟩ := plain_addr (h2 0 s0 hs0)
  refine ⟨b, o, rfl, fun j u hu => ?_⟩
  obtain ⟨s, hs, rfl⟩ := ints_at hu
  rw [← add_plain]
  exact h2 j s hs
end
end Go.Proofs.YtjhlpkhfdghngaaGreatDoor
namespace Go.Proofs.YtjhlpkhfdghngaaGreatDoor
open Go.RowKit Go.Sort
set_option linter.unusedVariables false
set_option linter.unusedSimpArgs false
set_option maxRecDepth 100000
theorem cellsVa : Tryz.prog.cellsOf 99 = 3 := by kernel_rfl
theorem cellsRu : Tryz.prog.cellsOf 33 = 18 := by kernel_rfl
section
variable {H : Type} {enc : TypeId × Value → H} {W : World} {base : Nat} {sp : Nat → Bool} {hd : Bool}
theorem rows_reads {α : Type} {t e : TypeId} {size : Nat} (hs : 0 < size) (ht : Tryz.prog.underlying t = some (.slice e)) (hc : Tryz.prog.cellsOf e = size) (cells : α → List Value) (R : α → Prop) (hlen : ∀ a, (cells a).length = size)
  (hrow : ∀ fuel cs x, cs.length = size → DataW.trod enc Tryz.prog W base sp hd fuel e cs = some x → ∃ a, cs = cells a ∧ R a) {fuel : Nat} {v : Value} {x : DataW H × List MemPlace} (h : DataW.trod enc Tryz.prog W base sp hd fuel t [v] = some x) :
  ∃ (A : Option Addr) (n c : Nat) (L : List α), v = .slice A n c ∧ L.length = n ∧ Reads W size A n (L.flatMap cells) ∧ ∀ a ∈ L, R a := by
 rcases Go.Deep.open_slice ht h with ⟨h0, _⟩ | ⟨a, len, cap, m, n, D, Pl, hcs, hb, hl, hm, hmm, hx, hi⟩
 ·injection h0 with h0
  subst h0
  exact ⟨none, 0, 0, [], rfl, rfl, Reads.nil_ _ _ _, fun a ha => by cases ha⟩
 ·injection hcs with hcs
  subst hcs
  have hlm : len ≤ m := by rw [hmm]; split <;> omega
  obtain ⟨L, h1, h2⟩ := list_of (p := fun i (z : α) => (∀ j u, (cells z)[j]? = some u → W.cell? ((a.add (i * size)).add j) = some u) ∧ R z) len (fun i hil => by
   obtain ⟨cs', hcc, ht'⟩ := hi i (by omega)
   rw [hc] at hcc
   obtain ⟨_, hcl, hat⟩ := World.cells?_some hcc
   obtain ⟨z, rfl, hz⟩ := hrow _ _ _ hcl ht'
   refine ⟨z, fun j u hu => ?_, hz⟩
   have hj := (List.getElem?_eq_some_iff.1 hu).1
   rw [hlen z] at hj
   rw [hat j hj]; exact hu)
  refine ⟨some a, len, cap, L, rfl, h1, ⟨by rw [flat_len cells L (fun z _ => hlen z), h1], fun hn => ?_⟩, fun z hz => ?_⟩
  ·obtain ⟨z0, hz0⟩ : ∃ z, L[0]? = some z := ⟨_, List.getElem?_eq_getElem (by omega)⟩
   have hu0 : (cells z0)[0]? = some ((cells z0)[0]'(by rw [hlen]; exact hs)) := List.getElem?_eq_getElem _
   obtain ⟨b, o, rfl⟩ := plain_addr (a := a) (w := W) (by have := (h2 0 z0 hz0).1 0 _ hu0; simpa [Addr.add] using this)
   refine ⟨b, o, rfl, fun j u hu => ?_⟩
   have hjl := (List.getElem?_eq_some_iff.1 hu).1
   rw [flat_len cells L (fun z _ => hlen z)] at hjl
   have hq : j / size < L.length := Nat.div_lt_of_lt_mul (by rw [Nat.mul_comm]; exact hjl)
   obtain ⟨z, hz⟩ : ∃ z, L[j / size]? = some z := ⟨_, List.getElem?_eq_getElem hq⟩
   have hr : j % size < size := Nat.mod_lt _ hs
   have hj : j / size * size + j % size = j := by rw [Nat.mul_comm]; exact Nat.div_add_mod j size
   have h3 := flat_at cells L (fun z _ => hlen z) (j / size) (j % size) z hz hr
   rw [hj, hu] at h3
   have h4 := (h2 (j / size) z hz).1 (j % size) u h3.symm
   rw [add_plain, add_plain, Nat.add_assoc, hj] at h4
   exact h4
  ·obtain ⟨i, hi2, rfl⟩ := List.getElem_of_mem hz
   exact (h2 i _ (List.getElem?_eq_getElem hi2)).2
theorem slice_cap {t e : TypeId} (ht : Tryz.prog.underlying t = some (.slice e)) {A : Option Addr} {n c : Nat} {fuel : Nat} {x : DataW H × List MemPlace} (h : DataW.trod enc Tryz.prog W base sp hd fuel t [.slice A n c] = some x) : n ≤ c := by
 rcases Go.Deep.open_slice ht h with ⟨h0, _⟩ | ⟨a, len, cap, m, k, D, Pl, hcs, _, hl, hm, _⟩
 ·injection h0 with h0
  injection h0 with h1 h2 h3
  omega
 ·injection hcs with hcs
  injection hcs with h1 h2 h3
  omega
theorem vary_row {fuel : Nat} {cs : List Value} {x : DataW H × List MemPlace} (hl : cs.length = 3) (h : DataW.trod enc Tryz.prog W base sp hd fuel 99 cs = some x) : ∃ y : VaryM, cs = y.cells ∧ VaryReads W y ∧ y.v.values.length ≤ y.c := by
 obtain ⟨ys, n', hn', hy, hlen, hyl, hg⟩ := DataW.trod_struct Tryz.underlying99 h
 match cs, hl with
 | [c0, c1, c2], _ =>
  have hyl2 : ys.length = 3 := hyl
  have h0 : DataW.trod enc Tryz.prog W base sp hd n' 9 [c0] = ys[0]? := hg 0 _ rfl
  have h1 : DataW.trod enc Tryz.prog W base sp hd n' 27 [c1] = ys[1]? := hg 1 _ rfl
  have h2 : DataW.trod enc Tryz.prog W base sp hd n' 9 [c2] = ys[2]? := hg 2 _ rfl
  rw [List.getElem?_eq_getElem (by omega)] at h0 h1 h2
  obtain ⟨hdr, e0, _⟩ := DataW.trod_string Tryz.underlying9 h0
  obtain ⟨A, n, c, vs, rfl, l1, r1⟩ := strs_reads h1
  have k1 := slice_cap Tryz.underlying27 h1
  obtain ⟨df, e2, _⟩ := DataW.trod_string Tryz.underlying9 h2
  injection e0 with e0
  injection e2 with e2
  subst e0; subst e2; subst l1
  exact ⟨⟨⟨hdr, vs, df⟩, A, c⟩, rfl, r1, k1⟩
theorem cond_row {fuel : Nat} {c0 c1 c2 c3 c4 c5 c6 : Value} {x : DataW H × List MemPlace} (h : DataW.trod enc Tryz.prog W base sp hd fuel 31 [c0, c1, c2, c3, c4, c5, c6] = some x) : ∃ (c : CondV) (m : CondMem), [c0, c1, c2, c3, c4, c5, c6] = [.int .i64 c.fr, .int .i64 c.till, .string c.pat, .slice m.A c.cl.length m.ca, .slice m.B c.co.length m.cb, .slice m.S c.si.length m.cs, .int .i64 c.us] ∧ CondReads W c m := by
 obtain ⟨ys, n', hn', hy, hlen, hyl, hg⟩ := DataW.trod_struct Tryz.underlying31 h
 have hyl2 : ys.length = 7 := hyl
 have h0 : DataW.trod enc Tryz.prog W base sp hd n' 3 [c0] = ys[0]? := hg 0 _ rfl
 have h1 : DataW.trod enc Tryz.prog W base sp hd n' 3 [c1] = ys[1]? := hg 1 _ rfl
 have h2 : DataW.trod enc Tryz.prog W base sp hd n' 9 [c2] = ys[2]? := hg 2 _ rfl
 have h3 : DataW.trod enc Tryz.prog W base sp hd n' 27 [c3] = ys[3]? := hg 3 _ rfl
 have h4 : DataW.trod enc Tryz.prog W base sp hd n' 27 [c4] = ys[4]? := hg 4 _ rfl
 have h5 : DataW.trod enc Tryz.prog W base sp hd n' 29 [c5] = ys[5]? := hg 5 _ rfl
 have h6 : DataW.trod enc Tryz.prog W base sp hd n' 3 [c6] = ys[6]? := hg 6 _ rfl
 rw [List.getElem?_eq_getElem (by omega)] at h0 h1 h2 h3 h4 h5 h6
 obtain ⟨fr, e0, _⟩ := DataW.trod_int Tryz.underlying3 h0
 obtain ⟨till, e1, _⟩ := DataW.trod_int Tryz.underlying3 h1
 obtain ⟨pat, e2, _⟩ := DataW.trod_string Tryz.underlying9 h2
 obtain ⟨us, e6, _⟩ := DataW.trod_int Tryz.underlying3 h6
 obtain ⟨A, na, ca, cl, rfl, l1, r1⟩ := strs_reads h3
 obtain ⟨B, nb, cb, co, rfl, l2, r2⟩ := strs_reads h4
 obtain ⟨S, ns, cs, si, rfl, l3, r3⟩ := ints_reads h5
 injection e0 with e0
 injection e1 with e1
 injection e2 with e2
 injection e6 with e6
 subst e0; subst e1; subst e2; subst e6; subst l1; subst l2; subst l3
 exact ⟨⟨fr, till, pat, cl, co, si, us⟩, ⟨A, ca, B, cb, S, cs⟩, rfl, ⟨r1, r2, r3⟩⟩
theorem rule_row {fuel : Nat} {cs : List Value} {x : DataW H × List MemPlace} (hl : cs.length = 18) (h : DataW.trod enc Tryz.prog W base sp hd fuel 33 cs = some x) : ∃ y : RuleM, cs = y.cells ∧ RuleReads W y ∧ RuleCaps y := by
 obtain ⟨ys, n', hn', hy, hlen, hyl, hg⟩ := DataW.trod_struct Tryz.underlying33 h
 match cs, hl with
 | [c0, c1, c2, c3, c4, c5, c6, c7, c8, c9, c10, c11, c12, c13, c14, c15, c16, c17], _ =>
  have hyl2 : ys.length = 12 := hyl
  have h0 : DataW.trod enc Tryz.prog W base sp hd n' 9 [c0] = ys[0]? := hg 0 _ rfl
  have h1 : DataW.trod enc Tryz.prog W base sp hd n' 9 [c1] = ys[1]? := hg 1 _ rfl
  have h2 : DataW.trod enc Tryz.prog W base sp hd n' 27 [c2] = ys[2]? := hg 2 _ rfl
  have h3 : DataW.trod enc Tryz.prog W base sp hd n' 3 [c3] = ys[3]? := hg 3 _ rfl
  have h4 : DataW.trod enc Tryz.prog W base sp hd n' 3 [c4] = ys[4]? := hg 4 _ rfl
  have h5 : DataW.trod enc Tryz.prog W base sp hd n' 3 [c5] = ys[5]? := hg 5 _ rfl
  have h6 : DataW.trod enc Tryz.prog W base sp hd n' 3 [c6] = ys[6]? := hg 6 _ rfl
  have h7 : DataW.trod enc Tryz.prog W base sp hd n' 28 [c7] = ys[7]? := hg 7 _ rfl
  have h8 : DataW.trod enc Tryz.prog W base sp hd n' 31 [c8, c9, c10, c11, c12, c13, c14] = ys[8]? := hg 8 _ rfl
  have h9 : DataW.trod enc Tryz.prog W base sp hd n' 4 [c15] = ys[9]? := hg 9 _ rfl
  have h10 : DataW.trod enc Tryz.prog W base sp hd n' 3 [c16] = ys[10]? := hg 10 _ rfl
  have h11 : DataW.trod enc Tryz.prog W base sp hd n' 9 [c17] = ys[11]? := hg 11 _ rfl
  rw [List.getElem?_eq_getElem (by omega)] at h0 h1 h2 h3 h4 h5 h6 h7 h8 h9 h10 h11
  obtain ⟨nm, e0, _⟩ := DataW.trod_string Tryz.underlying9 h0
  obtain ⟨pa, e1, _⟩ := DataW.trod_string Tryz.underlying9 h1
  obtain ⟨T, nt, ct, ts, rfl, l2, r2⟩ := strs_reads h2
  have k2 := slice_cap Tryz.underlying27 h2
  obtain ⟨fr, e3, _⟩ := DataW.trod_int Tryz.underlying3 h3
  obtain ⟨st, e4, _⟩ := DataW.trod_int Tryz.underlying3 h4
  obtain ⟨dn, e5, _⟩ := DataW.trod_int Tryz.underlying3 h5
  obtain ⟨ng, e6, _⟩ := DataW.trod_int Tryz.underlying3 h6
  obtain ⟨V, nv, cv, L, e7, l7, r7, k7⟩ := rows_reads (by decide) Tryz.underlying28 cellsVa VaryM.cells (fun y => VaryReads W y ∧ y.v.values.length ≤ y.c) (fun a => a.cells_len) (fun f cs x hl h => vary_row hl h) h7
  subst e7
  have kv := slice_cap Tryz.underlying28 h7
  obtain ⟨c, m, e8, r8⟩ := cond_row h8
  obtain ⟨sg, e9, _⟩ := DataW.trod_bool Tryz.underlying4 h9
  obtain ⟨co, e10, _⟩ := DataW.trod_int Tryz.underlying3 h10
  obtain ⟨pg, e11, _⟩ := DataW.trod_string Tryz.underlying9 h11
  simp only [List.cons.injEq, and_true] at e0 e1 e3 e4 e5 e6 e8 e9 e10 e11
  obtain ⟨f0, f1, f2, f3, f4, f5, f6⟩ := e8
  subst e0 e1 e3 e4 e5 e6 e10 e11 f0 f1 f2 f3 f4 f5 f6 l2 l7
  refine ⟨⟨⟨nm, pa, ts, fr, st, dn, ng, L.map (·.v), c, sg, co, pg⟩, T, ct, V, cv, L, m⟩, ?_, ⟨r2, ?_, rfl, fun y hy => (k7 y hy).1, r8⟩, ⟨k2, fun y hy => (k7 y hy).2, by show (L.map (·.v)).length ≤ cv; rw [List.length_map]; exact kv⟩⟩
  ·simp [RuleM.cells, e9]
  ·show Reads W 3 V (L.map (·.v)).length _
   rw [List.length_map]; exact r7
end
end Go.Proofs.YtjhlpkhfdghngaaGreatDoor
namespace Go.Proofs.YtjhlpkhfdghngaaGreatDoor
open Go.RowKit Go.Sort
set_option linter.unusedVariables false
set_option linter.unusedSimpArgs false
set_option maxRecDepth 100000
section
variable {H : Type} {enc : TypeId × Value → H} {W : World} {base : Nat} {sp : Nat → Bool} {hd : Bool}
theorem open_rulesC {r : Reach} {b0 : Nat} {v : Value} {d : DataW H} {ps : List MemPlace} (hval : Value.okWide Tryz.prog W r b0 22 v) (h : DataW.Trod enc Tryz.prog W base sp hd 22 v d ps) :
  ∃ (A : Option Addr) (n c : Nat) (L : List RuleM), v = .slice A n c ∧ RulesRead W A n L ∧ n ≤ 9223372036854775807 ∧ (∀ x ∈ L, RuleCaps x) ∧ n ≤ c := by
 obtain ⟨fuel, hf⟩ := h
 obtain ⟨A, n, c, rfl⟩ := Go.WideShapes.okWide_slice Tryz.underlying22 hval
 have hf2 : DataW.trod enc Tryz.prog W base sp hd fuel 22 [.slice A n c] = some (d, ps) := by simpa [Value.cells] using hf
 obtain ⟨A', n', c', L, he, hl, hr, hx⟩ := rows_reads (v := .slice A n c) (by decide) Tryz.underlying22 cellsRu RuleM.cells (fun y => RuleReads W y ∧ RuleCaps y) (fun a => a.cells_len) (fun f cs x hl h => rule_row hl h) hf2
 injection he with e1 e2 e3
 subst e1; subst e2; subst e3
 exact ⟨A, n, c, L, rfl, ⟨hl, hr, fun x h => (hx x h).1⟩, slice_bound Tryz.underlying22 hf2, fun x h => (hx x h).2, slice_cap Tryz.underlying22 hf2⟩
end
end Go.Proofs.YtjhlpkhfdghngaaGreatDoor
namespace Go.Proofs.YtjhlpkhfdghngaaGreatDoor
open Go.RowKit Go.Sort
set_option linter.unusedVariables false
set_option linter.unusedSimpArgs false
set_option maxRecDepth 100000
theorem u8_range {n : Int} (h : (Lit.int .u8 n).wf = true) : 0 ≤ n ∧ n ≤ 255 := by
 unfold Lit.wf at h
 simp only [Bool.and_eq_true, decide_eq_true_eq] at h
 have h1 : IntKind.u8.min = 0 := rfl
 have h2 : IntKind.u8.max = 255 := rfl
 omega
end Go.Proofs.YtjhlpkhfdghngaaGreatDoor
