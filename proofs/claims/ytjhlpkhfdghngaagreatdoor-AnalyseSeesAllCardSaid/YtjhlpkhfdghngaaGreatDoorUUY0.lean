/- What 'Split', 'HasTag' and 'Under' return. -/
import Derived.Test.YtjhlpkhfdghngaaGreatDoorGZ48
namespace Go.Proofs.YtjhlpkhfdghngaaGreatDoor
open Go.RowKit Go.Sort
set_option linter.unusedVariables false
set_option linter.unusedSimpArgs false
set_option maxRecDepth 100000
theorem tagsR_err (ps : List ByteArray) : (tagsR ps).2 = 0 ∨ (tagsR ps).2 = 1 ∨ (tagsR ps).2 = 2 := by
  unfold tagsR; split <;> (try split) <;> simp
set_option maxHeartbeats 2000000 in
theorem addrSplit_any (s : ByteArray) (w : World) (hs : s.size ≤ 100000) (hE : Env w) : Calls Tryz.prog 225 #[.string s] w (SplitPost (splitR s) w) := by
  cases hem : s.toList.isEmpty
  · have hr : splitR s = if (tagsR (splitB 44 s)).2 = 0 ∧ ((tagsR (splitB 44 s)).1.toList == s.toList) = true then (splitB 44 s, 0) else ([], 3) := by
      unfold splitR; rw [if_neg (by simp [hem])]
    rw [hr]
    have cS := split_any s 44 w (by omega) hE
    have hnum := splitB_num 44 s
    have hsz := splitB_size 44 s
    have herr := tagsR_err (splitB 44 s)
    have cT := fun A c W h => tags_any A (splitB 44 s).length c (splitB 44 s) W h (by omega) (fun p hp => by have := hsz p hp; omega)
    unfold tagsV at cT
    generalize splitB 44 s = ps at *
    generalize tagsR ps = r at *
    obtain ⟨T, er⟩ := r
    dsimp only at *
    have HT := Lib.hid cT
    have HS := Lib.hid cS
    clear cT cS hr
    have walkbad : ∀ V, V = SplitPost ([], 3) w → (er = 0 → (T.toList == s.toList) = false) → Calls Tryz.prog 225 #[.string s] w V := by
      intro V hV h
      have HV := Lib.hid hV
      rcases herr with rfl | rfl | rfl
      · have h := h rfl
        go_enter Tryz.func225, Tryz.ntmps225
        go_wp2_with (first | (go_at_call 138; refine HS.out.mono ?_; rintro e w1 ⟨hb1, A, c, rfl, hR, hA⟩) | (go_at_call 23; refine (HT.out _ _ _ hR).mono ?_; rintro e w2 ⟨rfl, hb2⟩))
        rw [HV.out]; exact SplitPost.none_ belB
      all_goals
        go_enter Tryz.func225, Tryz.ntmps225
        go_wp2_with (first | (go_at_call 138; refine HS.out.mono ?_; rintro e w1 ⟨hb1, A, c, rfl, hR, hA⟩) | (go_at_call 23; refine (HT.out _ _ _ hR).mono ?_; rintro e w2 ⟨rfl, hb2⟩))
        rw [HV.out]; exact SplitPost.none_ belB
    by_cases hok : er = 0 ∧ (T.toList == s.toList) = true
    · rw [if_pos hok]
      obtain ⟨rfl, he⟩ := hok
      generalize hV : SplitPost (ps, 0) w = V
      have HV := Lib.hid hV
      clear hV
      go_enter Tryz.func225, Tryz.ntmps225
      go_wp2_with (first | (go_at_call 138; refine HS.out.mono ?_; rintro e w1 ⟨hb1, A, c, rfl, hR, hA⟩) | (go_at_call 23; refine (HT.out _ _ _ hR).mono ?_; rintro e w2 ⟨rfl, hb2⟩))
      rw [← HV.out]; exact ⟨belB, A, c, rfl, hR.keep hb2⟩
    · rw [if_neg hok]
      exact walkbad _ rfl (fun h0 => by simpa [h0] using hok)
  · have hr : splitR s = ([], 0) := by unfold splitR; rw [if_pos hem]
    rw [hr]
    go_enter Tryz.func225, Tryz.ntmps225
    go_wp2
    go_ret2
    exact SplitPost.none_ belB
theorem hasTag_any (s tag : ByteArray) (w : World) (hs : s.size ≤ 100000) (hE : Env w) : Calls Tryz.prog 161 #[.string s, .string tag] w (Ret w (.bool (hasTagB s tag))) := by
  have cS := addrSplit_any s w hs hE
  unfold hasTagB
  have hlen : (splitR s).1.length ≤ 200000 := by
    unfold splitR
    have := splitB_num 44 s
    split
    · simp
    · split
      · simp; omega
      · simp
  generalize splitR s = r at *
  obtain ⟨ps, er⟩ := r
  dsimp only at *
  have HS := Lib.hid cS
  clear cS
  have cK : ∀ (A : Option Addr) (c : Nat) (W : World), Reads W 1 A ps.length (ps.map .string) → Calls Tryz.prog 148 #[.slice A ps.length c, .string tag] W (Ret W (.bool (Lib.containsS ps tag))) := by
    intro A c W hR
    by_cases h0 : ps = []
    · subst h0
      refine (Tryz.slices_Contains_string_empty A c tag W).mono ?_
      rintro e w' ⟨rfl, rfl⟩
      exact ⟨rfl, Below.refl _ _⟩
    · obtain ⟨b, o, rfl, hc⟩ := hR.2 (List.length_pos_iff.2 h0)
      have := Tryz.slices_Contains_string b o ps.length c ps tag W (Nat.le_refl _) (by omega) (fun j hj => by
        refine hc j _ ?_
        rw [List.getElem?_map, List.getElem?_eq_getElem hj]
        simp [List.getD_eq_getElem?_getD, List.getElem?_eq_getElem hj])
      refine this.mono ?_
      rintro e w' ⟨rfl, rfl⟩
      rw [List.take_length]
      exact ⟨rfl, Below.refl _ _⟩
  have HK := Lib.hid cK
  clear cK
  generalize Lib.containsS ps tag = res at *
  go_enter Tryz.func161, Tryz.ntmps161
  go_wp2_with (first | (go_at_call 225; refine HS.out.mono ?_; rintro e w1 ⟨hb1, A, c, rfl, hR⟩) | (go_at_call 148; refine (HK.out _ _ _ hR).mono ?_; rintro e w2 ⟨rfl, hb2⟩))
  go_ret
  exact ⟨rfl, belB⟩
end Go.Proofs.YtjhlpkhfdghngaaGreatDoor
namespace Go.Proofs.YtjhlpkhfdghngaaGreatDoor
open Go.RowKit Go.Sort
set_option linter.unusedVariables false
set_option linter.unusedSimpArgs false
set_option maxRecDepth 100000
section
variable {w : World} {g : Nat} {fr till us : Int} {pat : ByteArray} {A B S : Option Addr} {na ca nb cb ns cs : Nat}
end
theorem all_take2 {α : Type} {p : α → Bool} {l : List α} {k : Nat} {x : α} (h : (l.take k).all p = true) (hx : l[k]? = some x) (hp : p x = true) : (l.take (k + 1)).all p = true := by
  rw [List.take_add_one, hx]
  simp [h, hp]
theorem all_false2 {α : Type} {p : α → Bool} {l : List α} {k : Nat} {x : α} (hx : l[k]? = some x) (hp : p x = false) : l.all p = false := by
  rw [List.all_eq_false]
  exact ⟨x, List.mem_of_getElem? hx, by rw [hp]; decide⟩
set_option maxHeartbeats 4000000 in
theorem rFew_any (fr till us : Int) (pat : ByteArray) (A B S : Option Addr) (na ca nb cb ns cs : Nat) (cl co : List ByteArray) (w : World) (hA : Reads w 1 A na (cl.map .string)) (hB : Reads w 1 B nb (co.map .string)) :
    Calls Tryz.prog 105 #[.agg #[.int .i64 fr, .int .i64 till, .string pat, .slice A na ca, .slice B nb cb, .slice S ns cs, .int .i64 us]] w (Ret w (.bool (fewC na nb ns pat cl co))) := by
  have hna : cl.length = na := by have := hA.1; simp at this; omega
  have hnb : co.length = nb := by have := hB.1; simp at this; omega
  obtain ⟨V, hV⟩ : ∃ V, V = fewC na nb ns pat cl co := ⟨_, rfl⟩
  rw [← hV]
  unfold fewC at hV
  have HA := Lib.hid hA; have HB := Lib.hid hB; have HNA := Lib.hid hna; have HNB := Lib.hid hnb
  clear hA hB hna hnb
  by_cases h1 : na ≤ 40
  rotate_left
  · obtain rfl : V = false := by rw [hV]; simp [h1]
    have d1 : decide ((40 : Int) < (na : Int)) = true := decide_eq_true (by omega)
    clear hV
    go_enter Tryz.func105, Tryz.ntmps105
    go_wp2
    go_ret
    exact ⟨rfl, belB⟩
  have d1 : decide ((40 : Int) < (na : Int)) = false := decide_eq_false (by omega)
  by_cases h2 : nb ≤ 40
  rotate_left
  · obtain rfl : V = false := by rw [hV]; simp [h2]
    have d2 : decide ((40 : Int) < (nb : Int)) = true := decide_eq_true (by omega)
    clear hV
    go_enter Tryz.func105, Tryz.ntmps105
    go_wp2
    go_ret
    exact ⟨rfl, belB⟩
  have d2 : decide ((40 : Int) < (nb : Int)) = false := decide_eq_false (by omega)
  by_cases h3 : ns ≤ 70
  rotate_left
  · obtain rfl : V = false := by rw [hV]; simp [h3]
    have d3 : decide ((70 : Int) < (ns : Int)) = true := decide_eq_true (by omega)
    clear hV
    go_enter Tryz.func105, Tryz.ntmps105
    go_wp2
    go_ret
    exact ⟨rfl, belB⟩
  have d3 : decide ((70 : Int) < (ns : Int)) = false := decide_eq_false (by omega)
  by_cases h4 : pat.size ≤ 1000
  rotate_left
  · obtain rfl : V = false := by rw [hV]; simp [h4]
    have d4 : decide ((1000 : Int) < (pat.size : Int)) = true := decide_eq_true (by omega)
    clear hV
    go_enter Tryz.func105, Tryz.ntmps105
    go_wp2
    go_ret
    exact ⟨rfl, belB⟩
  have d4 : decide ((1000 : Int) < (pat.size : Int)) = false := decide_eq_false (by omega)
  have hv2 : V = (cl.all (fun x => decide (x.size ≤ 100)) && co.all (fun x => decide (x.size ≤ 100))) := by rw [hV]; simp [h1, h2, h3, h4]
  have HV := Lib.hid hv2
  clear hV hv2
  go_enter Tryz.func105, Tryz.ntmps105
  go_wp2
  have hX0 : CBox (w.alloc (.cells #[.int .i64 fr, .int .i64 till, .string pat, .slice A na ca, .slice B nb cb, .slice S ns cs, .int .i64 us] 31)) w.heap.size fr till pat A na ca B nb cb S ns cs us := World.alloc_heap_new _ _
  go_loopw [3] (fun vi wr => ∃ k : Nat, vi = .int .i64 k ∧ k ≤ na ∧ Hid ((cl.take k).all (fun x => decide (x.size ≤ 100)) = true) ∧ CBox wr w.heap.size fr till pat A na ca B nb cb S ns cs us ∧ Below w.heap.size w wr) (fun i _ => na - (intOf i).toNat)
  case atStart => exact ⟨0, rfl, Nat.zero_le _, Lib.hid (by simp), hX0, balloc (Below.refl _ _) _⟩
  case round =>
    clear hX0
    obtain ⟨k, rfl, hk, HK, hX, hbr⟩ := hrel
    obtain ⟨x0, x1, x2, x3, x4, x5, x6⟩ := hX.facts
    by_cases hlt : k < na
    · obtain ⟨x, hx⟩ : ∃ x, cl[k]? = some x := ⟨_, List.getElem?_eq_getElem (by have := HNA.out; omega)⟩
      obtain ⟨b, o, rfl, hcell⟩ := (HA.out.keep hbr).2 (by omega)
      have hc1 : wr.cell? ⟨b, o + k, none⟩ = some (.string x) := hcell k _ (by simp [hx])
      have hk0 : (0 : Int) ≤ (k : Int) := by omega
      have hk1 : (k : Int) < (na : Int) := by omega
      by_cases hs : x.size ≤ 100
      · have HK2 : Hid ((cl.take (k + 1)).all (fun x => decide (x.size ≤ 100)) = true) := Lib.hid (all_take2 HK.out hx (by simpa using hs))
        have d5 : decide ((100 : Int) < (x.size : Int)) = false := decide_eq_false (by omega)
        clear hcell hx HK
        go_wp2
        exact ⟨⟨k + 1, by go_num, by omega, HK2, hX, hbr⟩, by simp [intOf]; omega⟩
      · obtain rfl : V = false := by rw [HV.out, all_false2 hx (by simpa using hs)]; rfl
        have d5 : decide ((100 : Int) < (x.size : Int)) = true := decide_eq_true (by omega)
        clear hcell hx HK
        go_wp2
        go_ret
        exact ⟨rfl, hbr⟩
    · obtain rfl : k = na := by omega
      have hall : cl.all (fun x => decide (x.size ≤ 100)) = true := by
        have := HK.out
        rwa [List.take_of_length_le (by have := HNA.out; omega)] at this
      have hv3 : V = co.all (fun x => decide (x.size ≤ 100)) := by rw [HV.out, hall, Bool.true_and]
      have HV2 := Lib.hid hv3
      clear hall hv3 HK HV
      go_wp2
      clear x0 x1 x2 x3 x4 x5 x6
      obtain ⟨wo, rfl⟩ : ∃ wo : World, wo = wr := ⟨_, rfl⟩
      go_loopw [4] (fun vi wz => ∃ j : Nat, vi = .int .i64 j ∧ j ≤ nb ∧ Hid ((co.take j).all (fun x => decide (x.size ≤ 100)) = true) ∧ CBox wz w.heap.size fr till pat A k ca B nb cb S ns cs us ∧ Below w.heap.size w wz) (fun i _ => nb - (intOf i).toNat)
      case atStart => exact ⟨0, rfl, Nat.zero_le _, Lib.hid (by simp), hX, hbr⟩
      case round =>
        clear hX hbr
        obtain ⟨j, rfl, hj, HJ, hX, hbr⟩ := hrel
        obtain ⟨x0, x1, x2, x3, x4, x5, x6⟩ := hX.facts
        by_cases hlt2 : j < nb
        · obtain ⟨x, hx⟩ : ∃ x, co[j]? = some x := ⟨_, List.getElem?_eq_getElem (by have := HNB.out; omega)⟩
          obtain ⟨b, o, rfl, hcell⟩ := (HB.out.keep hbr).2 (by omega)
          have hc1 : wr.cell? ⟨b, o + j, none⟩ = some (.string x) := hcell j _ (by simp [hx])
          have hj0 : (0 : Int) ≤ (j : Int) := by omega
          have hj1 : (j : Int) < (nb : Int) := by omega
          by_cases hs : x.size ≤ 100
          · have HJ2 : Hid ((co.take (j + 1)).all (fun x => decide (x.size ≤ 100)) = true) := Lib.hid (all_take2 HJ.out hx (by simpa using hs))
            have d5 : decide ((100 : Int) < (x.size : Int)) = false := decide_eq_false (by omega)
            clear hcell hx HJ
            go_wp2
            exact ⟨⟨j + 1, by go_num, by omega, HJ2, hX, hbr⟩, by simp [intOf]; omega⟩
          · obtain rfl : V = false := by rw [HV2.out, all_false2 hx (by simpa using hs)]
            have d5 : decide ((100 : Int) < (x.size : Int)) = true := decide_eq_true (by omega)
            clear hcell hx HJ
            go_wp2
            go_ret
            exact ⟨rfl, hbr⟩
        · obtain rfl : j = nb := by omega
          have hall : co.all (fun x => decide (x.size ≤ 100)) = true := by
            have := HJ.out
            rwa [List.take_of_length_le (by have := HNB.out; omega)] at this
          obtain rfl : V = true := by rw [HV2.out, hall]
          go_wp2
          go_ret
          exact ⟨rfl, hbr⟩
end Go.Proofs.YtjhlpkhfdghngaaGreatDoor
namespace Go.Proofs.YtjhlpkhfdghngaaGreatDoor
open Go.RowKit Go.Sort
set_option linter.unusedVariables false
set_option linter.unusedSimpArgs false
set_option maxRecDepth 100000
open Go.Maps
theorem alloc2_cell (w : World) (cs : Array Value) (t : TypeId) (o : Obj) {k : Nat} {v : Value} (h : cs[k]? = some v) : ((w.alloc (.cells cs t)).alloc o).cell? ⟨w.heap.size, k, none⟩ = some v := by
  rw [cell_of_row _ _ _ cs t (0, 0) (heap_alloc2_old w (.cells cs t) o)]; exact h
end Go.Proofs.YtjhlpkhfdghngaaGreatDoor
namespace Go.Proofs.YtjhlpkhfdghngaaGreatDoor
open Go.RowKit Go.Sort
set_option linter.unusedVariables false
set_option linter.unusedSimpArgs false
set_option maxRecDepth 100000
theorem matches1_any (t tags : ByteArray) (b : Nat) (w : World) (hc : w.cell? ⟨b, 0, none⟩ = some (.string tags)) (hs : tags.size ≤ 100000) (hE : Env w) : Calls Tryz.prog 160 #[.string t, .pointer (some ⟨b, 0, none⟩)] w (Ret w (.bool (!hasTagB tags t))) := by
  have HH := Lib.hid (hasTag_any tags t w hs hE)
  clear hE
  generalize hasTagB tags t = v at *
  go_enter Tryz.func160, Tryz.ntmps160
  go_wp2_with (go_at_call 161; refine HH.out.mono ?_; rintro e w2 ⟨rfl, hb2⟩)
  go_ret
  exact ⟨rfl, hb2⟩
def mtX (r : RuleV) (a t : ByteArray) : Bool := matchB r.pat a && r.tags.all (hasTagB t)
theorem any_not {α : Type} (p : α → Bool) : ∀ l : List α, (!l.any fun x => !p x) = l.all p
  | [] => rfl
  | x :: l => by
    have := any_not p l
    simp only [List.any_cons, List.all_cons, Bool.not_or, Bool.not_not, this]
set_option maxHeartbeats 4000000 in
theorem matches_any (x : RuleM) (a t : ByteArray) (w : World) (hR : RuleReads w x) (hp : x.r.pat.size ≤ 100000) (hn : x.r.tags.length ≤ 1000) (ha : a.size ≤ 100000) (ht : t.size ≤ 100000) (hE : Env w) :
    Calls Tryz.prog 86 #[x.val, .string a, .string t] w (Ret w (.bool (mtX x.r a t))) := by
  have cM := fun (W : World) (hb : Below w.heap.size w W) => match_any x.r.pat a W hp ha (Env.keep hE hb)
  have hb0 : ∀ W (hb : Below w.heap.size w W) (b : Nat), W.cell? ⟨b, 0, none⟩ = some (.string t) → Calls Tryz.prog 69 #[.slice x.T x.r.tags.length x.ct, .func (.func 160) #[] #[.pointer (some ⟨b, 0, none⟩)]] W (Ret W (.bool (x.r.tags.any fun y => !hasTagB t y))) := fun W hb b hc =>
    containsFuncC_any 160 (enters_of Tryz.func160 (by kernel_rfl) rfl) (.pointer (some ⟨b, 0, none⟩)) (fun y => !hasTagB t y) x.T x.r.tags.length x.ct x.r.tags W (fun y hy W' hb' => matches1_any y t b W' (cell_keep hb' hc) ht (Env.keep hE (bstep hb hb'))) (hR.tags.keep hb) (by omega)
  have hv : mtX x.r a t = (matchB x.r.pat a && !(x.r.tags.any fun y => !hasTagB t y)) := by unfold mtX; rw [any_not]
  rw [hv]
  generalize (x.r.tags.any fun y => !hasTagB t y) = b2 at *
  generalize matchB x.r.pat a = b1 at *
  have hmf : ∀ (fn : Fn) (first cap : Array Value) (w : World), (Instr.makeFunc fn first cap).run Tryz.prog w = .ok (.func fn first cap) w := fun _ _ _ _ => rfl
  have HM := Lib.hid cM; have HC := Lib.hid hb0
  clear cM hb0 hv hR hE
  rw [RuleM.val_eq]
  cases b1
  · rw [Bool.false_and]
    go_enter Tryz.func86, Tryz.ntmps86
    go_wp2_with (go_at_call 21; refine (HM.out _ belB).mono ?_; rintro e w2 ⟨rfl, hb2⟩)
    go_ret
    exact ⟨rfl, belB⟩
  · rw [Bool.true_and]
    go_enter Tryz.func86, Tryz.ntmps86
    go_wp2_with (first | (go_at_call 21; refine (HM.out _ belB).mono ?_; rintro e w2 ⟨rfl, hb2⟩; have y2 := cell_keep hb2 (alloc2_cell w _ _ _ (k := 2) rfl); have y9 : w2.cell? ⟨w.heap.size + 1, 0, none⟩ = some (.string t) := cell_keep hb2 ((cell_of_row _ _ 0 _ _ _ (heap_alloc2_new w _ _)).trans rfl)) | (go_at_call 69; refine (HC.out _ belB _ y9).mono ?_; rintro e w3 ⟨rfl, hb3⟩))
    go_ret
    exact ⟨rfl, belB⟩
end Go.Proofs.YtjhlpkhfdghngaaGreatDoor
namespace Go.Proofs.YtjhlpkhfdghngaaGreatDoor
open Go.RowKit Go.Sort
set_option linter.unusedVariables false
set_option linter.unusedSimpArgs false
set_option maxRecDepth 100000
theorem choose1_any (x : RuleM) (a t : ByteArray) (b b2 : Nat) (w : World) (hR : RuleReads w x) (hc : w.cell? ⟨b, 0, none⟩ = some (.string a)) (hc2 : w.cell? ⟨b2, 0, none⟩ = some (.string t)) (hp : x.r.pat.size ≤ 100000) (hn : x.r.tags.length ≤ 1000) (ha : a.size ≤ 100000) (ht : t.size ≤ 100000) (hE : Env w) :
    Calls Tryz.prog 85 #[x.val, .pointer (some ⟨b, 0, none⟩), .pointer (some ⟨b2, 0, none⟩)] w (Ret w (.bool (mtX x.r a t))) := by
  have hm := fun W (hb : Below w.heap.size w W) => matches_any x a t W (hR.keep hb) hp hn ha ht (Env.keep hE hb)
  rw [RuleM.val_eq] at *
  have HM := Lib.hid hm
  clear hm hR hE
  generalize mtX x.r a t = v at *
  have hl1 := cell_lt hc
  have hl2 := cell_lt hc2
  go_enter Tryz.func85, Tryz.ntmps85
  go_wp2_with (go_at_call 86; refine (HM.out _ belB).mono ?_; rintro e w2 ⟨rfl, hb2⟩)
  go_ret
  exact ⟨rfl, belB⟩
set_option maxHeartbeats 2000000 in
theorem indexFuncR_any (g : Nat) (eg : ∀ args w, (callFunc g args).run Tryz.prog w = .ok (.enter g args) w) (cv cv2 : Value) (p : RuleM → Bool) (A : Option Addr) (n c : Nat) (L : List RuleM) (w : World)
    (hp : ∀ x ∈ L, ∀ W, Below w.heap.size w W → Calls Tryz.prog g #[x.val, cv, cv2] W (Ret W (.bool (p x)))) (hA : RulesRead w A n L) (hn : n ≤ 1000000000) :
    Calls Tryz.prog 84 #[.slice A n c, .func (.func g) #[] #[cv, cv2]] w (Ret w (.int .i64 (idxA p L 0))) := by
  have hl : n ≤ L.length ∧ L.length ≤ n := by have := hA.len; omega
  have HP := Lib.hid hp; have HA := Lib.hid hA
  clear hp hA
  go_enter Tryz.func84, Tryz.ntmps84
  go_wp2
  go_loopw [8] (fun i wr => ∃ k : Nat, k ≤ n ∧ i = .int .i64 k ∧ Hid (idxA p L 0 = idxA p (L.drop k) k) ∧ Below w.heap.size w wr) (fun i _ => n - (intOf i).toNat)
  case atStart => exact ⟨0, by omega, rfl, Lib.hid rfl, Below.refl _ _⟩
  case round =>
    obtain ⟨k, hk, rfl, HI, hb⟩ := hrel
    by_cases hlt : k < n
    · obtain ⟨x, hx⟩ : ∃ x, L[k]? = some x := ⟨_, List.getElem?_eq_getElem (by omega)⟩
      obtain ⟨_, b, o, rfl, hcell⟩ := (HA.out.keep hb).at_ hx
      have hld := rule_load wr b (o + k * 18) x hcell
      have hc := HP.out x (List.mem_of_getElem? hx) wr hb
      have hd : L.drop k = x :: L.drop (k + 1) := by
        obtain ⟨hl2, rfl⟩ := List.getElem?_eq_some_iff.1 hx
        exact List.drop_eq_getElem_cons hl2
      have HI2 := HI.out
      rw [hd, idxA] at HI2
      have HX := Lib.hid hcell
      clear hd hx HI hcell
      have HI := Lib.hid HI2
      clear HI2
      have hxv : x.val = x.val := rfl
      generalize x.val = xv at hld hc
      clear hxv
      cases hpx : p x
      all_goals
        rw [hpx] at hc HI
        have HC := Lib.hid hc
        clear hc hpx
        go_wp2_with (first | (refine wpList_load_addr rfl _ _ rfl ⟨b, o + k * 18, none⟩ xv rfl hld ?_) | (go_at_fn g; refine (HC.out).mono ?_; rintro e w2 ⟨rfl, hb2⟩))
      · refine ⟨⟨k + 1, by omega, by go_num, Lib.hid (by have := HI.out; simpa using this), bstep hb hb2⟩, by simp [intOf]; omega⟩
      · go_ret
        have := HI.out
        exact ⟨ret_int (by rw [this]; simp), bstep hb hb2⟩
    · have he : idxA p L 0 = -1 := by rw [HI.out, List.drop_eq_nil_of_le (by omega)]; rfl
      have HE := Lib.hid he
      clear he HI
      go_wp2
      go_ret
      exact ⟨ret_int HE.out.symm, hb⟩
def chooseX (L : List RuleM) (a t : ByteArray) : Int := idxA (fun x => mtX x.r a t) L 0
structure RulesFit (L : List RuleM) : Prop where
  n : L.length ≤ 1000
  p : ∀ x ∈ L, x.r.pat.size ≤ 100000
  t : ∀ x ∈ L, x.r.tags.length ≤ 1000
set_option maxHeartbeats 4000000 in
theorem choose_any (A : Option Addr) (n c : Nat) (L : List RuleM) (a t : ByteArray) (w : World) (hL : RulesRead w A n L) (hf : RulesFit L) (ha : a.size ≤ 100000) (ht : t.size ≤ 100000) (hE : Env w) :
    Calls Tryz.prog 25 #[.slice A n c, .string a, .string t] w (Ret w (.int .i64 (chooseX L a t))) := by
  have hn : n ≤ 1000 := by have := hL.len; have := hf.n; omega
  have hi : Calls Tryz.prog 84 #[.slice A n c, .func (.func 85) #[] #[.pointer (some ⟨w.heap.size, 0, none⟩), .pointer (some ⟨w.heap.size + 1, 0, none⟩)]] ((w.alloc (.cells #[.string a] 9)).alloc (.cells #[.string t] 9)) (Ret ((w.alloc (.cells #[.string a] 9)).alloc (.cells #[.string t] 9)) (.int .i64 (chooseX L a t))) := by
    have hb : Below w.heap.size w ((w.alloc (.cells #[.string a] 9)).alloc (.cells #[.string t] 9)) := belB
    refine indexFuncR_any 85 (enters_of Tryz.func85 (by kernel_rfl) rfl) _ _ (fun x => mtX x.r a t) A n c L _ (fun x hx W hb' => ?_) (hL.keep hb) (by omega)
    exact choose1_any x a t _ _ W ((hL.each x hx).keep (bstep hb hb')) (cell_keep hb' (alloc2_cell w #[.string a] _ _ (k := 0) rfl)) (cell_keep hb' ((cell_of_row _ _ 0 _ _ _ (heap_alloc2_new w _ _)).trans rfl)) (hf.p x hx) (hf.t x hx) ha ht (Env.keep hE (bstep hb hb'))
  have hmf : ∀ (fn : Fn) (first cap : Array Value) (w : World), (Instr.makeFunc fn first cap).run Tryz.prog w = .ok (.func fn first cap) w := fun _ _ _ _ => rfl
  have HI := Lib.hid hi
  clear hi hL hE hf
  generalize chooseX L a t = v at *
  go_enter Tryz.func25, Tryz.ntmps25
  go_wp2_with (go_at_call 84; refine HI.out.mono ?_; rintro e w2 ⟨rfl, hb2⟩)
  go_ret
  exact ⟨rfl, belB⟩
end Go.Proofs.YtjhlpkhfdghngaaGreatDoor
namespace Go.Proofs.YtjhlpkhfdghngaaGreatDoor
open Go.RowKit Go.Sort
set_option linter.unusedVariables false
set_option linter.unusedSimpArgs false
set_option maxRecDepth 100000
theorem inf18 : (Tryz.prog.info? 33).map (·.size) = some 18 := by kernel_rfl
end Go.Proofs.YtjhlpkhfdghngaaGreatDoor
namespace Go.Proofs.YtjhlpkhfdghngaaGreatDoor
open Go.RowKit Go.Sort
set_option linter.unusedVariables false
set_option linter.unusedSimpArgs false
set_option maxRecDepth 100000
open Go.Maps
def cutB (s : ByteArray) : ByteArray := toB (Lib.cut s.data.toList [47]).1
def sameB (s t : ByteArray) : Bool := s.toList == t.toList
def checkL (cust : ByteArray) : List RuleV → List ByteArray → Int
  | [], _ => 0
  | r :: l, seen => if validR r = false then 220 else if sameB (cutB r.pat) cust = false then 221 else if hasN seen r.name = true then 6 else checkL cust l (r.name :: seen)
def checkP (cust : ByteArray) (party : Int) (l : List RuleV) : Int :=
  if isNameB cust = false ∨ party < 1 ∨ 1073741824 < party then 1 else if 64 < l.length then 2 else checkL cust l []
def polV (cust : ByteArray) (party : Int) (A : Option Addr) (n c : Nat) : Value := .agg #[.string cust, .int .i64 party, .slice A n c]
def namesK (L : List RuleM) (k : Nat) : List ByteArray := ((L.take k).map (·.r.name)).reverse
theorem namesK_succ {L : List RuleM} {k : Nat} {x : RuleM} (h : L[k]? = some x) : namesK L (k + 1) = x.r.name :: namesK L k := by
  unfold namesK
  rw [List.take_add_one, h]
  simp
set_option maxHeartbeats 8000000 in
theorem check_any (cust : ByteArray) (party : Int) (A : Option Addr) (n c : Nat) (L : List RuleM) (w : World) (hL : RulesRead w A n L) (hf : ∀ x ∈ L, RuleFits x.r) (hcs : cust.size ≤ 4294967281) (hE : Env w) :
    Calls Tryz.prog 14 #[polV cust party A n c] w (Ret w (.int .i64 (checkP cust party (L.map (·.r))))) := by
  have hl : L.length = n := hL.len
  have cN := fun (W : World) (hb : Below w.heap.size w W) => polName_any cust W hcs (Env.keep hE hb)
  have cV := fun (x : RuleM) (hx : x ∈ L) (W : World) (hb : Below w.heap.size w W) => polValid_any x W ((hL.each x hx).keep hb) (hf x hx) (Env.keep hE hb)
  have cC := fun (x : RuleM) (hx : x ∈ L) (W : World) (hb : Below w.heap.size w W) => cut_any x.r.pat 47 W (by have := (hf x hx).pat; omega) (Env.keep hE hb)
  have hpk : ∀ x ∈ L, keyOf Tryz.prog 9 (.string x.r.name) = some (.string x.r.name.data.toList) := fun x hx => WideMaps.keyOf_string_mk Tryz.underlying9 (by have := (hf x hx).name; unfold maxLen; omega)
  unfold polV
  by_cases hn1 : isNameB cust = false ∨ party < 1 ∨ 1073741824 < party
  · have e1 : checkP cust party (L.map (·.r)) = 1 := by unfold checkP; rw [if_pos hn1]
    rw [e1]
    clear e1 hL hf cV cC hpk hE
    cases hnm : isNameB cust
    · rw [hnm] at cN
      have HN := Lib.hid cN
      clear cN hnm hn1
      go_enter Tryz.func14, Tryz.ntmps14
      go_wp2_with (first | (go_at_call 48; refine (HN.out _ belB).mono ?_; rintro e w2 ⟨rfl, hb2⟩; have B2 : Box1 w2 w.heap.size 24 #[.string cust, .int .i64 party, .slice A n c] := Box1.keep (heap_alloc_new w _) hb2; have y0 : w2.cell? ⟨w.heap.size, 0, none⟩ = some (.string cust) := B2.cell rfl; have y1 : w2.cell? ⟨w.heap.size, 1, none⟩ = some (.int .i64 party) := B2.cell rfl; have y2 : w2.cell? ⟨w.heap.size, 2, none⟩ = some (.slice A n c) := B2.cell rfl))
      go_ret
      exact ⟨rfl, belB⟩
    · have hn2 : party < 1 ∨ 1073741824 < party := by rcases hn1 with h | h; · rw [hnm] at h; cases h
                                                      · exact h
      rw [hnm] at cN
      have HN := Lib.hid cN
      clear cN hnm hn1
      by_cases hp1 : party < 1
      · clear hn2
        go_enter Tryz.func14, Tryz.ntmps14
        go_wp2_with (first | (go_at_call 48; refine (HN.out _ belB).mono ?_; rintro e w2 ⟨rfl, hb2⟩; have B2 : Box1 w2 w.heap.size 24 #[.string cust, .int .i64 party, .slice A n c] := Box1.keep (heap_alloc_new w _) hb2; have y0 : w2.cell? ⟨w.heap.size, 0, none⟩ = some (.string cust) := B2.cell rfl; have y1 : w2.cell? ⟨w.heap.size, 1, none⟩ = some (.int .i64 party) := B2.cell rfl; have y2 : w2.cell? ⟨w.heap.size, 2, none⟩ = some (.slice A n c) := B2.cell rfl))
        go_ret
        exact ⟨rfl, belB⟩
      · have hp2 : 1073741824 < party := hn2.resolve_left hp1
        clear hn2
        go_enter Tryz.func14, Tryz.ntmps14
        go_wp2_with (first | (go_at_call 48; refine (HN.out _ belB).mono ?_; rintro e w2 ⟨rfl, hb2⟩; have B2 : Box1 w2 w.heap.size 24 #[.string cust, .int .i64 party, .slice A n c] := Box1.keep (heap_alloc_new w _) hb2; have y0 : w2.cell? ⟨w.heap.size, 0, none⟩ = some (.string cust) := B2.cell rfl; have y1 : w2.cell? ⟨w.heap.size, 1, none⟩ = some (.int .i64 party) := B2.cell rfl; have y2 : w2.cell? ⟨w.heap.size, 2, none⟩ = some (.slice A n c) := B2.cell rfl))
        go_ret
        exact ⟨rfl, belB⟩
  · have e0 : isNameB cust = true ∧ 1 ≤ party ∧ party ≤ 1073741824 := by
      refine ⟨?_, ?_, ?_⟩
      · cases h : isNameB cust
        · exact absurd (.inl h) hn1
        · rfl
      · exact Int.not_lt.1 (fun h => hn1 (.inr (.inl h)))
      · exact Int.not_lt.1 (fun h => hn1 (.inr (.inr h)))
    obtain ⟨hnm, hp1, hp2⟩ := e0
    have e1 : checkP cust party (L.map (·.r)) = if 64 < n then 2 else checkL cust (L.map (·.r)) [] := by unfold checkP; rw [if_neg hn1, List.length_map, hl]
    rw [e1]
    rw [hnm] at cN
    clear e1 hn1 hnm
    have HN := Lib.hid cN
    have q1 : decide (party < 1) = false := decide_eq_false (by omega)
    have q2 : decide (1073741824 < party) = false := decide_eq_false (by omega)
    by_cases h64 : 64 < n
    · rw [if_pos h64]
      have q3 : decide ((64 : Int) < (n : Int)) = true := decide_eq_true (by omega)
      clear hL hf cV cC hpk hE cN hl
      go_enter Tryz.func14, Tryz.ntmps14
      go_wp2_with (first | (go_at_call 48; refine (HN.out _ belB).mono ?_; rintro e w2 ⟨rfl, hb2⟩; have B2 : Box1 w2 w.heap.size 24 #[.string cust, .int .i64 party, .slice A n c] := Box1.keep (heap_alloc_new w _) hb2; have y0 : w2.cell? ⟨w.heap.size, 0, none⟩ = some (.string cust) := B2.cell rfl; have y1 : w2.cell? ⟨w.heap.size, 1, none⟩ = some (.int .i64 party) := B2.cell rfl; have y2 : w2.cell? ⟨w.heap.size, 2, none⟩ = some (.slice A n c) := B2.cell rfl))
      go_ret
      exact ⟨rfl, belB⟩
    rw [if_neg h64]
    have q3 : decide ((64 : Int) < (n : Int)) = false := decide_eq_false (by omega)
    obtain ⟨V, hV⟩ : ∃ V, V = checkL cust (L.map (·.r)) [] := ⟨_, rfl⟩
    rw [← hV]
    have HV := Lib.hid hV; have HL := Lib.hid hL; have HLN := Lib.hid hl; have HCV := Lib.hid cV; have HCC := Lib.hid cC; have HPK := Lib.hid hpk
    clear hV hL hl cV cC hpk hf hE cN
    have hmm := @run_makeMap Tryz.prog
    go_enter Tryz.func14, Tryz.ntmps14
    go_upto_region 6 with (first | (go_at_call 48; refine (HN.out _ belB).mono ?_; rintro e w2 ⟨rfl, hb2⟩; have B2 : Box1 w2 w.heap.size 24 #[.string cust, .int .i64 party, .slice A n c] := Box1.keep (heap_alloc_new w _) hb2; have y0 : w2.cell? ⟨w.heap.size, 0, none⟩ = some (.string cust) := B2.cell rfl; have y1 : w2.cell? ⟨w.heap.size, 1, none⟩ = some (.int .i64 party) := B2.cell rfl; have y2 : w2.cell? ⟨w.heap.size, 2, none⟩ = some (.slice A n c) := B2.cell rfl))
    obtain ⟨gm, hgm0⟩ : ∃ gm, gm = w2.heap.size := ⟨_, rfl⟩
    have hb2s := hb2.size
    simp only [World.size_alloc] at hb2s
    have hm0 : (w2.alloc (.map #[] 0)).ownsMap Tryz.prog 9 (plainElem (H := Unit) Tryz.prog 4) gm 0 (seenD []) := by rw [hgm0]; exact World.ownsMap_made w2 _ _ _
    have hp0 : Box1 (w2.alloc (.map #[] 0)) w.heap.size 24 #[.string cust, .int .i64 party, .slice A n c] := B2.keep ((Below.refl _ _).alloc (Nat.le_refl _) _)
    have hbw0 : Below w.heap.size w (w2.alloc (.map #[] 0)) := belB
    have hgs0 : gm < (w2.alloc (.map #[] 0)).heap.size := by simp; omega
    have hg1 : w.heap.size < gm := by omega
    rw [← hgm0]
    have HM0 := Lib.hid hm0; have HP0 := Lib.hid hp0
    generalize w2.alloc (.map #[] 0) = w3 at *
    clear hm0 hp0 hgm0 hb2 hb2s B2 y0 y1 y2 q1 q2 q3 hp1 hp2
    clear w2
    have y2 : w3.cell? ⟨w.heap.size, 2, none⟩ = some (.slice A n c) := Box1.cell HP0.out rfl
    go_wp2_with fail
    clear y2
    go_loopw [33] (fun iv wr => ∃ k : Nat, k ≤ n ∧ iv = .int .i64 k ∧ Hid (V = checkL cust ((L.drop k).map (·.r)) (namesK L k)) ∧ Hid (Box1 wr w.heap.size 24 #[.string cust, .int .i64 party, .slice A n c]) ∧ Hid (wr.ownsMap Tryz.prog 9 (plainElem (H := Unit) Tryz.prog 4) gm k (seenD (namesK L k))) ∧ gm < wr.heap.size ∧ Below w.heap.size w wr) (fun iv _ => n - (intOf iv).toNat)
    case atStart => exact ⟨0, by omega, rfl, Lib.hid (by rw [HV.out]; rfl), HP0, HM0, hgs0, hbw0⟩
    case round =>
      obtain ⟨k, hk, rfl, HI, HPB, HMP, hgm, hbr⟩ := hrel
      clear HM0 HP0 hbw0 hgs0
      by_cases hlt : k < n
      · obtain ⟨x, hx⟩ : ∃ x, L[k]? = some x := ⟨_, List.getElem?_eq_getElem (by have := HLN.out; omega)⟩
        obtain ⟨_, b, o, rfl, hcell⟩ := (HL.out.keep hbr).at_ hx
        have hld := rule_load wr b (o + k * 18) x hcell
        have hd : L.drop k = x :: L.drop (k + 1) := by
          obtain ⟨hl2, rfl⟩ := List.getElem?_eq_some_iff.1 hx
          exact List.drop_eq_getElem_cons hl2
        have hVA := HI.out
        rw [hd, List.map_cons, checkL] at hVA
        have hsucc := namesK_succ hx
        have hat := seenD_at x.r.name (namesK L k)
        have hxm := List.mem_of_getElem? hx
        have hval := HCV.out x hxm
        have hcut := HCC.out x hxm
        have hkey := HPK.out x hxm
        have hc0 : x.cells.toArray[0]? = some (.string x.r.name) := rfl
        have hc1 : x.cells.toArray[1]? = some (.string x.r.pat) := rfl
        have hone : x.cells.toArray.all (·.oneCell') = true := by rw [List.all_toArray]; rfl
        have hsz2 : x.cells.toArray.size = 18 := by rw [List.size_toArray, x.cells_len]
        have hi18 : (Tryz.prog.info? 33).map (·.size) = some x.cells.toArray.size := by rw [hsz2]; exact inf18
        have hsz : x.cells.toArray.size = (#[.string ⟨#[]⟩, .string ⟨#[]⟩, .slice none 0 0, .int .i64 0, .int .i64 0, .int .i64 0, .int .i64 0, .slice none 0 0, .int .i64 0, .int .i64 0, .string ⟨#[]⟩, .slice none 0 0, .slice none 0 0, .slice none 0 0, .int .i64 0, .bool false, .int .i64 0, .string ⟨#[]⟩] : Array Value).size := by rw [hsz2]; rfl
        unfold RuleM.val at hld hval
        have hcb : toB (Lib.cut x.r.pat.data.toList [47]).1 = cutB x.r.pat := rfl
        rw [hcb] at hcut
        generalize x.cells.toArray = X at *
        generalize toB (Lib.cut x.r.pat.data.toList [47]).2.1 = u1 at *
        generalize (Lib.cut x.r.pat.data.toList [47]).2.2 = u2 at *
        generalize cutB x.r.pat = cb at *
        generalize x.r.name = nm at *
        generalize x.r.pat = pt at *
        generalize validR x.r = vb at *
        generalize hasN (namesK L k) nm = sb at *
        have HLD := Lib.hid hld; have HSU := Lib.hid hsucc; have HSE := Lib.hid hat; have HVA := Lib.hid hval; have HCT := Lib.hid hcut; have HKEY := Lib.hid hkey; have HC0 := Lib.hid hc0; have HC1 := Lib.hid hc1; have HON := Lib.hid hone; have HXS := Lib.hid hsz2; have HI18 := Lib.hid hi18; have HSZ := Lib.hid hsz
        clear hld hsucc hat hval hcut hkey hc0 hc1 hone hsz2 hi18 hsz hd hcell hx hxm hcb HI
        have hk0 : (0 : Int) ≤ (k : Int) := by omega
        have hk1 : (k : Int) < (n : Int) := by omega
        cases vb
        · rw [if_pos rfl] at hVA
          subst hVA
          go_wp2_with (first | (refine wpList_load_addr rfl 33 _ rfl ⟨b, o + k * 18, none⟩ (.agg X) rfl HLD.out ?_) | (refine wpList_store_row rfl _ _ _ rfl wr.heap.size X rfl rfl _ #[.string ⟨#[]⟩, .string ⟨#[]⟩, .slice none 0 0, .int .i64 0, .int .i64 0, .int .i64 0, .int .i64 0, .slice none 0 0, .int .i64 0, .int .i64 0, .string ⟨#[]⟩, .slice none 0 0, .slice none 0 0, .slice none 0 0, .int .i64 0, .bool false, .int .i64 0, .string ⟨#[]⟩] ((heap_alloc_new wr _).trans rfl) HI18.out HSZ.out.symm HON.out ?_; generalize hw6 : World.setRow _ _ _ = w6; have B6 : Box1 w6 wr.heap.size 33 X := (by rw [← hw6]; exact setRow_heap _ _ _ _ _ _ (heap_alloc_new wr _)); have hb6 : Below wr.heap.size wr w6 := (by rw [← hw6]; exact below_setRow ((Below.refl _ _).alloc (Nat.le_refl _) _) (Nat.le_refl _) _); clear hw6; have x1 := B6.cell HC1.out) | (go_at_call 58; refine (HCT.out _ (bstep hbr hb6)).mono ?_; rintro e w7 ⟨rfl, hb7⟩; have B7 := B6.keep hb7; have hs7 := hb7.size) | (refine wpList_load_addr rfl 33 _ rfl ⟨wr.heap.size, 0, none⟩ (.agg X) rfl (B7.rule HXS.out) ?_) | (go_at_call 12; refine (HVA.out _ (bstep (bstep hbr hb6) hb7)).mono ?_; rintro e w8 ⟨rfl, hb8⟩; have hs8 := hb8.size; have hbk8 : Below wr.heap.size wr w8 := bstep (bstep hb6 hb7) hb8; have hbw8 : Below w.heap.size w w8 := bstep hbr hbk8; have P8 := Box1.keep HPB.out hbk8; have B8 := B7.keep hb8; have z0 : w8.cell? ⟨w.heap.size, 0, none⟩ = some (.string cust) := P8.cell rfl; have x0 := B8.cell HC0.out; have M8 := ownsMap_keep HMP.out hbk8 hgm) | (at_lookup; refine wpList_lookup_own_bool _ rfl _ _ 91 rfl 9 4 keyLaw Tryz.underlying91 Tryz.underlying4 (zeroB _) gm k _ rfl M8 _ _ rfl HKEY.out _ HSE.out ?_) | (at_mapUpdate; refine wpList_mapUpdate_own _ rfl _ _ _ 91 rfl 9 4 keyLaw Tryz.underlying91 (plainElem (H := Unit) Tryz.prog 4) gm k _ rfl M8 (by unfold maxLen; omega) _ _ _ rfl rfl HKEY.out _ _ (plainElem_bool Tryz.underlying4 true) ?_; intro w9 hown9 hgrow9))
          go_ret
          exact ⟨rfl, hbw8⟩
        rw [if_neg (by simp)] at hVA
        unfold sameB at hVA
        cases hcu : (cb.toList == cust.toList)
        · rw [hcu, if_pos rfl] at hVA
          subst hVA
          have hcu2 : (cb.toList != cust.toList) = true := by simp only [bne, hcu]; rfl
          go_wp2_with (first | (refine wpList_load_addr rfl 33 _ rfl ⟨b, o + k * 18, none⟩ (.agg X) rfl HLD.out ?_) | (refine wpList_store_row rfl _ _ _ rfl wr.heap.size X rfl rfl _ #[.string ⟨#[]⟩, .string ⟨#[]⟩, .slice none 0 0, .int .i64 0, .int .i64 0, .int .i64 0, .int .i64 0, .slice none 0 0, .int .i64 0, .int .i64 0, .string ⟨#[]⟩, .slice none 0 0, .slice none 0 0, .slice none 0 0, .int .i64 0, .bool false, .int .i64 0, .string ⟨#[]⟩] ((heap_alloc_new wr _).trans rfl) HI18.out HSZ.out.symm HON.out ?_; generalize hw6 : World.setRow _ _ _ = w6; have B6 : Box1 w6 wr.heap.size 33 X := (by rw [← hw6]; exact setRow_heap _ _ _ _ _ _ (heap_alloc_new wr _)); have hb6 : Below wr.heap.size wr w6 := (by rw [← hw6]; exact below_setRow ((Below.refl _ _).alloc (Nat.le_refl _) _) (Nat.le_refl _) _); clear hw6; have x1 := B6.cell HC1.out) | (go_at_call 58; refine (HCT.out _ (bstep hbr hb6)).mono ?_; rintro e w7 ⟨rfl, hb7⟩; have B7 := B6.keep hb7; have hs7 := hb7.size) | (refine wpList_load_addr rfl 33 _ rfl ⟨wr.heap.size, 0, none⟩ (.agg X) rfl (B7.rule HXS.out) ?_) | (go_at_call 12; refine (HVA.out _ (bstep (bstep hbr hb6) hb7)).mono ?_; rintro e w8 ⟨rfl, hb8⟩; have hs8 := hb8.size; have hbk8 : Below wr.heap.size wr w8 := bstep (bstep hb6 hb7) hb8; have hbw8 : Below w.heap.size w w8 := bstep hbr hbk8; have P8 := Box1.keep HPB.out hbk8; have B8 := B7.keep hb8; have z0 : w8.cell? ⟨w.heap.size, 0, none⟩ = some (.string cust) := P8.cell rfl; have x0 := B8.cell HC0.out; have M8 := ownsMap_keep HMP.out hbk8 hgm) | (at_lookup; refine wpList_lookup_own_bool _ rfl _ _ 91 rfl 9 4 keyLaw Tryz.underlying91 Tryz.underlying4 (zeroB _) gm k _ rfl M8 _ _ rfl HKEY.out _ HSE.out ?_) | (at_mapUpdate; refine wpList_mapUpdate_own _ rfl _ _ _ 91 rfl 9 4 keyLaw Tryz.underlying91 (plainElem (H := Unit) Tryz.prog 4) gm k _ rfl M8 (by unfold maxLen; omega) _ _ _ rfl rfl HKEY.out _ _ (plainElem_bool Tryz.underlying4 true) ?_; intro w9 hown9 hgrow9))
          go_ret
          exact ⟨rfl, hbw8⟩
        rw [hcu, if_neg (by simp)] at hVA
        have hcu2 : (cb.toList != cust.toList) = false := by simp only [bne, hcu]; rfl
        cases sb
        · rw [if_neg (by simp)] at hVA
          have HVB := Lib.hid hVA
          clear hVA
          go_wp2_with (first | (refine wpList_load_addr rfl 33 _ rfl ⟨b, o + k * 18, none⟩ (.agg X) rfl HLD.out ?_) | (refine wpList_store_row rfl _ _ _ rfl wr.heap.size X rfl rfl _ #[.string ⟨#[]⟩, .string ⟨#[]⟩, .slice none 0 0, .int .i64 0, .int .i64 0, .int .i64 0, .int .i64 0, .slice none 0 0, .int .i64 0, .int .i64 0, .string ⟨#[]⟩, .slice none 0 0, .slice none 0 0, .slice none 0 0, .int .i64 0, .bool false, .int .i64 0, .string ⟨#[]⟩] ((heap_alloc_new wr _).trans rfl) HI18.out HSZ.out.symm HON.out ?_; generalize hw6 : World.setRow _ _ _ = w6; have B6 : Box1 w6 wr.heap.size 33 X := (by rw [← hw6]; exact setRow_heap _ _ _ _ _ _ (heap_alloc_new wr _)); have hb6 : Below wr.heap.size wr w6 := (by rw [← hw6]; exact below_setRow ((Below.refl _ _).alloc (Nat.le_refl _) _) (Nat.le_refl _) _); clear hw6; have x1 := B6.cell HC1.out) | (go_at_call 58; refine (HCT.out _ (bstep hbr hb6)).mono ?_; rintro e w7 ⟨rfl, hb7⟩; have B7 := B6.keep hb7; have hs7 := hb7.size) | (refine wpList_load_addr rfl 33 _ rfl ⟨wr.heap.size, 0, none⟩ (.agg X) rfl (B7.rule HXS.out) ?_) | (go_at_call 12; refine (HVA.out _ (bstep (bstep hbr hb6) hb7)).mono ?_; rintro e w8 ⟨rfl, hb8⟩; have hs8 := hb8.size; have hbk8 : Below wr.heap.size wr w8 := bstep (bstep hb6 hb7) hb8; have hbw8 : Below w.heap.size w w8 := bstep hbr hbk8; have P8 := Box1.keep HPB.out hbk8; have B8 := B7.keep hb8; have z0 : w8.cell? ⟨w.heap.size, 0, none⟩ = some (.string cust) := P8.cell rfl; have x0 := B8.cell HC0.out; have M8 := ownsMap_keep HMP.out hbk8 hgm) | (at_lookup; refine wpList_lookup_own_bool _ rfl _ _ 91 rfl 9 4 keyLaw Tryz.underlying91 Tryz.underlying4 (zeroB _) gm k _ rfl M8 _ _ rfl HKEY.out _ HSE.out ?_) | (at_mapUpdate; refine wpList_mapUpdate_own _ rfl _ _ _ 91 rfl 9 4 keyLaw Tryz.underlying91 (plainElem (H := Unit) Tryz.prog 4) gm k _ rfl M8 (by unfold maxLen; omega) _ _ _ rfl rfl HKEY.out _ _ (plainElem_bool Tryz.underlying4 true) ?_; intro w9 hown9 hgrow9))
          have hz8 := hbk8.size
          have hg9 := hgrow9.size
          refine ⟨⟨k + 1, by omega, by go_num, Lib.hid (by rw [HSU.out]; exact HVB.out), Lib.hid ((hgrow9.block w.heap.size (by have := hbw8.size; omega) (fun e => by injection e with e; omega)).trans P8), Lib.hid (by rw [HSU.out]; exact hown9), by omega, hbw8.grown hgrow9 (hbw8.size) (fun r e => by injection e with e; omega)⟩, by simp [intOf]; omega⟩
        · rw [if_pos rfl] at hVA
          subst hVA
          go_wp2_with (first | (refine wpList_load_addr rfl 33 _ rfl ⟨b, o + k * 18, none⟩ (.agg X) rfl HLD.out ?_) | (refine wpList_store_row rfl _ _ _ rfl wr.heap.size X rfl rfl _ #[.string ⟨#[]⟩, .string ⟨#[]⟩, .slice none 0 0, .int .i64 0, .int .i64 0, .int .i64 0, .int .i64 0, .slice none 0 0, .int .i64 0, .int .i64 0, .string ⟨#[]⟩, .slice none 0 0, .slice none 0 0, .slice none 0 0, .int .i64 0, .bool false, .int .i64 0, .string ⟨#[]⟩] ((heap_alloc_new wr _).trans rfl) HI18.out HSZ.out.symm HON.out ?_; generalize hw6 : World.setRow _ _ _ = w6; have B6 : Box1 w6 wr.heap.size 33 X := (by rw [← hw6]; exact setRow_heap _ _ _ _ _ _ (heap_alloc_new wr _)); have hb6 : Below wr.heap.size wr w6 := (by rw [← hw6]; exact below_setRow ((Below.refl _ _).alloc (Nat.le_refl _) _) (Nat.le_refl _) _); clear hw6; have x1 := B6.cell HC1.out) | (go_at_call 58; refine (HCT.out _ (bstep hbr hb6)).mono ?_; rintro e w7 ⟨rfl, hb7⟩; have B7 := B6.keep hb7; have hs7 := hb7.size) | (refine wpList_load_addr rfl 33 _ rfl ⟨wr.heap.size, 0, none⟩ (.agg X) rfl (B7.rule HXS.out) ?_) | (go_at_call 12; refine (HVA.out _ (bstep (bstep hbr hb6) hb7)).mono ?_; rintro e w8 ⟨rfl, hb8⟩; have hs8 := hb8.size; have hbk8 : Below wr.heap.size wr w8 := bstep (bstep hb6 hb7) hb8; have hbw8 : Below w.heap.size w w8 := bstep hbr hbk8; have P8 := Box1.keep HPB.out hbk8; have B8 := B7.keep hb8; have z0 : w8.cell? ⟨w.heap.size, 0, none⟩ = some (.string cust) := P8.cell rfl; have x0 := B8.cell HC0.out; have M8 := ownsMap_keep HMP.out hbk8 hgm) | (at_lookup; refine wpList_lookup_own_bool _ rfl _ _ 91 rfl 9 4 keyLaw Tryz.underlying91 Tryz.underlying4 (zeroB _) gm k _ rfl M8 _ _ rfl HKEY.out _ HSE.out ?_) | (at_mapUpdate; refine wpList_mapUpdate_own _ rfl _ _ _ 91 rfl 9 4 keyLaw Tryz.underlying91 (plainElem (H := Unit) Tryz.prog 4) gm k _ rfl M8 (by unfold maxLen; omega) _ _ _ rfl rfl HKEY.out _ _ (plainElem_bool Tryz.underlying4 true) ?_; intro w9 hown9 hgrow9))
          go_ret
          exact ⟨rfl, hbw8⟩
      · obtain rfl : V = 0 := by
          rw [HI.out, List.drop_eq_nil_of_le (by have := HLN.out; omega)]; rfl
        clear HI
        go_wp2
        go_ret
        exact ⟨rfl, hbr⟩
end Go.Proofs.YtjhlpkhfdghngaaGreatDoor
namespace Go.Proofs.YtjhlpkhfdghngaaGreatDoor
open Go.RowKit Go.Sort
set_option linter.unusedVariables false
set_option linter.unusedSimpArgs false
set_option maxRecDepth 100000
attribute [local go_sem] Oper.semAt_some
theorem ints_at {xs : List Int} {k : Nat} {u : Value} (h : (xs.map (Value.int .i64))[k]? = some u) : ∃ x, xs[k]? = some x ∧ u = .int .i64 x := by
  rw [List.getElem?_map, Option.map_eq_some_iff] at h
  obtain ⟨x, hx, rfl⟩ := h
  exact ⟨x, hx, rfl⟩
end Go.Proofs.YtjhlpkhfdghngaaGreatDoor
namespace Go.Proofs.YtjhlpkhfdghngaaGreatDoor
open Go.RowKit Go.Sort
set_option linter.unusedVariables false
set_option linter.unusedSimpArgs false
set_option maxRecDepth 100000
theorem e7 : validC (cIn []) = true := by kernel_rfl
theorem e8 : validC (cIn allSites) = true := by kernel_rfl
end Go.Proofs.YtjhlpkhfdghngaaGreatDoor
namespace Go.Proofs.YtjhlpkhfdghngaaGreatDoor
open Go.RowKit Go.Sort
set_option linter.unusedVariables false
set_option linter.unusedSimpArgs false
set_option maxRecDepth 100000
set_option maxHeartbeats 4000000 in
theorem rFew22_head (x : RuleM) (w : World) (hR : RuleReads w x) (hbad : (decide (x.r.name.size ≤ 200) && decide (x.r.pat.size ≤ 200) && decide (x.r.prog.size ≤ 200) && decide (x.r.tags.length ≤ 10) && decide (x.r.vary.length ≤ 10) && fewCR x.r.allow) = false) :
    Calls Tryz.prog 40 #[x.val] w (Ret w (.bool false)) := by
  have cF := fun W (hb : Below w.heap.size w W) => rFew_any x.r.allow.fr x.r.allow.till x.r.allow.us x.r.allow.pat x.m.A x.m.B x.m.S x.r.allow.cl.length x.m.ca x.r.allow.co.length x.m.cb x.r.allow.si.length x.m.cs x.r.allow.cl x.r.allow.co W (hR.allow.cl.keep hb) (hR.allow.co.keep hb)
  have hfc : fewC x.r.allow.cl.length x.r.allow.co.length x.r.allow.si.length x.r.allow.pat x.r.allow.cl x.r.allow.co = fewCR x.r.allow := rfl
  rw [hfc] at cF
  generalize fewCR x.r.allow = fc at *
  rw [RuleM.val_eq]
  have HF := Lib.hid cF
  clear cF hR hfc
  by_cases h0 : x.r.name.size ≤ 200
  rotate_left
  · have d0 : decide ((200 : Int) < (x.r.name.size : Int)) = true := decide_eq_true (by omega)
    clear hbad
    go_enter Tryz.func40, Tryz.ntmps40
    go_wp2
    go_ret
    exact ⟨rfl, belB⟩
  have d0 : decide ((200 : Int) < (x.r.name.size : Int)) = false := decide_eq_false (by omega)
  by_cases h1 : x.r.pat.size ≤ 200
  rotate_left
  · have d1 : decide ((200 : Int) < (x.r.pat.size : Int)) = true := decide_eq_true (by omega)
    clear hbad
    go_enter Tryz.func40, Tryz.ntmps40
    go_wp2
    go_ret
    exact ⟨rfl, belB⟩
  have d1 : decide ((200 : Int) < (x.r.pat.size : Int)) = false := decide_eq_false (by omega)
  by_cases h2 : x.r.prog.size ≤ 200
  rotate_left
  · have d2 : decide ((200 : Int) < (x.r.prog.size : Int)) = true := decide_eq_true (by omega)
    clear hbad
    go_enter Tryz.func40, Tryz.ntmps40
    go_wp2
    go_ret
    exact ⟨rfl, belB⟩
  have d2 : decide ((200 : Int) < (x.r.prog.size : Int)) = false := decide_eq_false (by omega)
  by_cases h3 : x.r.tags.length ≤ 10
  rotate_left
  · have d3 : decide ((10 : Int) < (x.r.tags.length : Int)) = true := decide_eq_true (by omega)
    clear hbad
    go_enter Tryz.func40, Tryz.ntmps40
    go_wp2
    go_ret
    exact ⟨rfl, belB⟩
  have d3 : decide ((10 : Int) < (x.r.tags.length : Int)) = false := decide_eq_false (by omega)
  by_cases h4 : x.r.vary.length ≤ 10
  rotate_left
  · have d4 : decide ((10 : Int) < (x.r.vary.length : Int)) = true := decide_eq_true (by omega)
    clear hbad
    go_enter Tryz.func40, Tryz.ntmps40
    go_wp2
    go_ret
    exact ⟨rfl, belB⟩
  have d4 : decide ((10 : Int) < (x.r.vary.length : Int)) = false := decide_eq_false (by omega)
  obtain rfl : fc = false := by simpa [h0, h1, h2, h3, h4] using hbad
  clear hbad
  go_enter Tryz.func40, Tryz.ntmps40
  go_wp2_with (go_at_call 105; refine (HF.out _ belB).mono ?_; rintro e w2 ⟨rfl, hb2⟩)
  go_ret
  exact ⟨rfl, belB⟩
end Go.Proofs.YtjhlpkhfdghngaaGreatDoor
namespace Go.Proofs.YtjhlpkhfdghngaaGreatDoor
open Go.RowKit Go.Sort
set_option linter.unusedVariables false
set_option linter.unusedSimpArgs false
set_option maxRecDepth 100000
set_option maxHeartbeats 8000000 in
theorem rFew22_tail (x : RuleM) (w : World) (hR : RuleReads w x) (hgood : (decide (x.r.name.size ≤ 200) && decide (x.r.pat.size ≤ 200) && decide (x.r.prog.size ≤ 200) && decide (x.r.tags.length ≤ 10) && decide (x.r.vary.length ≤ 10) && fewCR x.r.allow) = true) :
    Calls Tryz.prog 40 #[x.val] w (Ret w (.bool (x.r.tags.all (fun x : ByteArray => decide (x.size ≤ 200)) && x.r.vary.all fewVy))) := by
  have cF := fun W (hb : Below w.heap.size w W) => rFew_any x.r.allow.fr x.r.allow.till x.r.allow.us x.r.allow.pat x.m.A x.m.B x.m.S x.r.allow.cl.length x.m.ca x.r.allow.co.length x.m.cb x.r.allow.si.length x.m.cs x.r.allow.cl x.r.allow.co W (hR.allow.cl.keep hb) (hR.allow.co.keep hb)
  have hfc : fewC x.r.allow.cl.length x.r.allow.co.length x.r.allow.si.length x.r.allow.pat x.r.allow.cl x.r.allow.co = fewCR x.r.allow := rfl
  rw [hfc] at cF
  generalize fewCR x.r.allow = fc at *
  simp only [Bool.and_eq_true, decide_eq_true_eq] at hgood
  obtain ⟨⟨⟨⟨⟨h0, h1⟩, h2⟩, h3⟩, h4⟩, rfl⟩ := hgood
  have d0 : decide ((200 : Int) < (x.r.name.size : Int)) = false := decide_eq_false (by omega)
  have d1 : decide ((200 : Int) < (x.r.pat.size : Int)) = false := decide_eq_false (by omega)
  have d2 : decide ((200 : Int) < (x.r.prog.size : Int)) = false := decide_eq_false (by omega)
  have d3 : decide ((10 : Int) < (x.r.tags.length : Int)) = false := decide_eq_false (by omega)
  have d4 : decide ((10 : Int) < (x.r.vary.length : Int)) = false := decide_eq_false (by omega)
  obtain ⟨V, hV⟩ : ∃ V, V = (x.r.tags.all (fun x : ByteArray => decide (x.size ≤ 200)) && x.r.vary.all fewVy) := ⟨_, rfl⟩
  rw [← hV]
  rw [RuleM.val_eq]
  have hA := hR.tags
  have hsame := hR.same
  have HF := Lib.hid cF; have HV := Lib.hid hV; have HA := Lib.hid hA; have HR := Lib.hid hR; have HSM := Lib.hid hsame
  have hvl : x.L.length = x.r.vary.length := by rw [← hsame, List.length_map]
  have HVL := Lib.hid hvl
  clear cF hR hfc hV hA hsame hvl h0 h1 h2
  go_enter Tryz.func40, Tryz.ntmps40
  go_wp2_with (go_at_call 105; refine (HF.out _ belB).mono ?_; rintro e w2 ⟨rfl, hb2⟩; have y2 : w2.cell? ⟨w.heap.size, 2, none⟩ = some (.slice x.T x.r.tags.length x.ct) := cell_keep hb2 ((cell_of_row _ _ 2 _ _ _ (heap_alloc_new w _)).trans rfl); have y7 : w2.cell? ⟨w.heap.size, 7, none⟩ = some (.slice x.V x.r.vary.length x.cv) := cell_keep hb2 ((cell_of_row _ _ 7 _ _ _ (heap_alloc_new w _)).trans rfl))
  have hbw2 : Below w.heap.size w w2 := belB
  clear d0 d1 d2 d3 d4 HF
  obtain ⟨n, hn⟩ : ∃ n, n = x.r.tags.length := ⟨_, rfl⟩
  obtain ⟨m, hm⟩ : ∃ m, m = x.r.vary.length := ⟨_, rfl⟩
  rw [← hn] at y2 HA h3
  rw [← hm] at y7 h4 HVL
  have HN := Lib.hid hn; have HMM := Lib.hid hm
  clear hn hm
  go_loopw [3] (fun vi wr => ∃ k : Nat, vi = .int .i64 k ∧ k ≤ n ∧ Hid ((x.r.tags.take k).all (fun x : ByteArray => decide (x.size ≤ 200)) = true) ∧ wr.cell? ⟨w.heap.size, 2, none⟩ = some (.slice x.T n x.ct) ∧ wr.cell? ⟨w.heap.size, 7, none⟩ = some (.slice x.V m x.cv) ∧ Below w.heap.size w wr ∧ w.heap.size < wr.heap.size) (fun i _ => n - (intOf i).toNat)
  case atStart => exact ⟨0, rfl, Nat.zero_le _, Lib.hid (by simp), y2, y7, hbw2, cell_lt y2⟩
  case round =>
    clear y2 y7 hbw2 hb2
    obtain ⟨k, rfl, hk, HK, y2, y7, hbr, hgr⟩ := hrel
    by_cases hlt : k < n
    · obtain ⟨t, ht⟩ : ∃ t, x.r.tags[k]? = some t := ⟨_, List.getElem?_eq_getElem (by have := HN.out; omega)⟩
      obtain ⟨b, o, hT, hcell⟩ := (HA.out.keep hbr).2 (by omega)
      rw [hT] at y2
      have hc1 : wr.cell? ⟨b, o + k, none⟩ = some (.string t) := hcell k _ (by simp [ht])
      have hk0 : (0 : Int) ≤ (k : Int) := by omega
      have hk1 : (k : Int) < (n : Int) := by omega
      by_cases hs : t.size ≤ 200
      · have HK2 : Hid ((x.r.tags.take (k + 1)).all (fun x : ByteArray => decide (x.size ≤ 200)) = true) := Lib.hid (all_take2 HK.out ht (by simpa using hs))
        have d5 : decide ((200 : Int) < (t.size : Int)) = false := decide_eq_false (by omega)
        have HTT := Lib.hid hT
        clear hcell ht HK hT
        go_wp2
        exact ⟨⟨k + 1, by go_num, by omega, HK2, by rw [HTT.out]; exact y2, y7, hbr, hgr⟩, by simp [intOf]; omega⟩
      · obtain rfl : V = false := by rw [HV.out, all_false2 ht (by simpa using hs)]; rfl
        have d5 : decide ((200 : Int) < (t.size : Int)) = true := decide_eq_true (by omega)
        clear hcell ht HK hT
        go_wp2
        go_ret
        exact ⟨rfl, hbr⟩
    · obtain rfl : k = n := by omega
      have hall : x.r.tags.all (fun x : ByteArray => decide (x.size ≤ 200)) = true := by
        have := HK.out
        rwa [List.take_of_length_le (by have := HN.out; omega)] at this
      have hv3 : V = x.r.vary.all fewVy := by rw [HV.out, hall, Bool.true_and]
      have HV2 := Lib.hid hv3
      clear hall hv3 HK HV
      go_wp2
      obtain ⟨wo, rfl⟩ : ∃ wo : World, wo = wr := ⟨_, rfl⟩
      clear y2 HA
      go_loopw [4] (fun vi wz => ∃ j : Nat, vi = .int .i64 j ∧ j ≤ m ∧ Hid ((x.r.vary.take j).all fewVy = true) ∧ wz.cell? ⟨w.heap.size, 7, none⟩ = some (.slice x.V m x.cv) ∧ Below w.heap.size w wz ∧ w.heap.size < wz.heap.size) (fun i _ => m - (intOf i).toNat)
      case atStart => exact ⟨0, rfl, Nat.zero_le _, Lib.hid (by simp), y7, hbr, hgr⟩
      case round =>
        clear y7 hbr hgr
        obtain ⟨j, rfl, hj, HJ, y7, hbr, hgr⟩ := hrel
        by_cases hlt2 : j < m
        · obtain ⟨y, hy⟩ : ∃ y, x.L[j]? = some y := ⟨_, List.getElem?_eq_getElem (by have := HVL.out; omega)⟩
          have hxv : x.r.vary[j]? = some y.v := by rw [← HSM.out, List.getElem?_map, hy]; rfl
          obtain ⟨b, o, hVV, hcell⟩ := Reads.row (HR.out.vary.keep hbr) (fun a _ => a.cells_len) (by have := HVL.out; have := HMM.out; omega) hy
          have hyr := (HR.out.each y (List.mem_of_getElem? hy))
          rw [hVV] at y7
          have e0 : wr.cell? ⟨b, o + j * 3, none⟩ = some (.string y.v.header) := hcell 0 _ rfl
          have e1 : wr.cell? ⟨b, o + j * 3 + 1, none⟩ = some (.slice y.A y.v.values.length y.c) := hcell 1 _ rfl
          have e2 : wr.cell? ⟨b, o + j * 3 + 2, none⟩ = some (.string y.v.dflt) := hcell 2 _ rfl
          have hj0 : (0 : Int) ≤ (j : Int) := by omega
          have hj1 : (j : Int) < (m : Int) := by omega
          have HYR := Lib.hid hyr; have HVV := Lib.hid hVV
          clear hcell hy hyr hVV
          by_cases g0 : y.v.header.size ≤ 200
          rotate_left
          · obtain rfl : V = false := by rw [HV2.out, all_false2 hxv (by simp [fewVy, g0])]
            have dg0 : decide ((200 : Int) < (y.v.header.size : Int)) = true := decide_eq_true (by omega)
            clear HJ hxv
            go_wp2
            go_ret
            exact ⟨rfl, belB⟩
          have dg0 : decide ((200 : Int) < (y.v.header.size : Int)) = false := decide_eq_false (by omega)
          by_cases g1 : y.v.dflt.size ≤ 200
          rotate_left
          · obtain rfl : V = false := by rw [HV2.out, all_false2 hxv (by simp [fewVy, g1])]
            have dg1 : decide ((200 : Int) < (y.v.dflt.size : Int)) = true := decide_eq_true (by omega)
            clear HJ hxv
            go_wp2
            go_ret
            exact ⟨rfl, belB⟩
          have dg1 : decide ((200 : Int) < (y.v.dflt.size : Int)) = false := decide_eq_false (by omega)
          by_cases g2 : y.v.values.length ≤ 10
          rotate_left
          · obtain rfl : V = false := by rw [HV2.out, all_false2 hxv (by simp [fewVy, g2])]
            have dg2 : decide ((10 : Int) < (y.v.values.length : Int)) = true := decide_eq_true (by omega)
            clear HJ hxv
            go_wp2
            go_ret
            exact ⟨rfl, belB⟩
          have dg2 : decide ((10 : Int) < (y.v.values.length : Int)) = false := decide_eq_false (by omega)
          have HXV := Lib.hid hxv
          clear hxv
          go_wp2
          obtain ⟨wv, hwv⟩ : ∃ wv : World, wv = wr := ⟨_, rfl⟩
          have z7 : (wr.alloc (.cells #[.string y.v.header, .slice y.A y.v.values.length y.c, .string y.v.dflt] 99)).cell? ⟨w.heap.size, 7, none⟩ = some (.slice (some ⟨b, o, none⟩) m x.cv) := cell_keep ((Below.refl wr.heap.size wr).alloc (Nat.le_refl _) _) y7
          have z1 : (wr.alloc (.cells #[.string y.v.header, .slice y.A y.v.values.length y.c, .string y.v.dflt] 99)).cell? ⟨wr.heap.size, 1, none⟩ = some (.slice y.A y.v.values.length y.c) := (cell_of_row _ _ 1 _ _ _ (heap_alloc_new wr _)).trans rfl
          have hb3 : Below w.heap.size w (wr.alloc (.cells #[.string y.v.header, .slice y.A y.v.values.length y.c, .string y.v.dflt] 99)) := belB
          clear e0 e1 e2 dg0 dg1 dg2 y7
          generalize hg : wr.heap.size = g at *
          have hgg : w.heap.size < g := hgr
          obtain ⟨q, hq⟩ : ∃ q, q = y.v.values.length := ⟨_, rfl⟩
          rw [← hq] at z1 z7 hb3 g2 ⊢
          have HQ := Lib.hid hq
          clear hq
          go_loopw [6] (fun vi wy => ∃ i : Nat, vi = .int .i64 i ∧ i ≤ q ∧ Hid ((y.v.values.take i).all (fun x : ByteArray => decide (x.size ≤ 200)) = true) ∧ wy.cell? ⟨w.heap.size, 7, none⟩ = some (.slice (some ⟨b, o, none⟩) m x.cv) ∧ wy.cell? ⟨g, 1, none⟩ = some (.slice y.A q y.c) ∧ Below w.heap.size w wy) (fun i _ => q - (intOf i).toNat)
          case atStart => exact ⟨0, rfl, Nat.zero_le _, Lib.hid (by simp), z7, z1, hb3⟩
          case round =>
            clear z7 z1 hb3 hbr
            obtain ⟨i, rfl, hi, HK3, z7, z1, hbr⟩ := hrel
            by_cases hlt3 : i < q
            · obtain ⟨t, ht⟩ : ∃ t, y.v.values[i]? = some t := ⟨_, List.getElem?_eq_getElem (by have := HQ.out; omega)⟩
              obtain ⟨b3, o3, hYA, hcell⟩ := (Reads.keep HYR.out hbr).2 (by have := HQ.out; omega)
              rw [hYA] at z1
              have hc1 : wr.cell? ⟨b3, o3 + i, none⟩ = some (.string t) := hcell i _ (by simp [ht])
              have hi0 : (0 : Int) ≤ (i : Int) := by omega
              have hi1 : (i : Int) < (q : Int) := by omega
              by_cases hs : t.size ≤ 200
              · have HK4 : Hid ((y.v.values.take (i + 1)).all (fun x : ByteArray => decide (x.size ≤ 200)) = true) := Lib.hid (all_take2 HK3.out ht (by simpa using hs))
                have d5 : decide ((200 : Int) < (t.size : Int)) = false := decide_eq_false (by omega)
                have HTT := Lib.hid hYA
                clear hcell ht HK3 hYA
                go_wp2
                exact ⟨⟨i + 1, by go_num, by omega, HK4, z7, by rw [HTT.out]; exact z1, hbr⟩, by simp [intOf]; omega⟩
              · obtain rfl : V = false := by rw [HV2.out, all_false2 HXV.out (by simp [fewVy, all_false2 ht (p := (fun x : ByteArray => decide (x.size ≤ 200))) (by simpa using hs)])]
                have d5 : decide ((200 : Int) < (t.size : Int)) = true := decide_eq_true (by omega)
                clear hcell ht HK3 hYA
                go_wp2
                go_ret
                exact ⟨rfl, hbr⟩
            · obtain rfl : i = q := by omega
              have hall : y.v.values.all (fun x : ByteArray => decide (x.size ≤ 200)) = true := by
                have := HK3.out
                rwa [List.take_of_length_le (by have := HQ.out; omega)] at this
              have hfv : fewVy y.v = true := by
                unfold fewVy
                rw [hall]
                have := HQ.out
                simp [g0, g1, ← HQ.out, g2]
              have HJ2 : Hid ((x.r.vary.take (j + 1)).all fewVy = true) := Lib.hid (all_take2 HJ.out HXV.out hfv)
              clear hall hfv HK3
              go_wp2
              exact ⟨⟨j + 1, by go_num, by omega, HJ2, by rw [HVV.out]; exact z7, hbr, cell_lt z7⟩, by simp [intOf]; omega⟩
        · obtain rfl : j = m := by omega
          have hall : x.r.vary.all fewVy = true := by
            have := HJ.out
            rwa [List.take_of_length_le (by have := HMM.out; omega)] at this
          obtain rfl : V = true := by rw [HV2.out, hall]
          clear hall HJ
          go_wp2
          go_ret
          exact ⟨rfl, hbr⟩
theorem rFew22_any (x : RuleM) (w : World) (hR : RuleReads w x) : Calls Tryz.prog 40 #[x.val] w (Ret w (.bool (fewR x.r))) := by
  unfold fewR
  cases hc : (decide (x.r.name.size ≤ 200) && decide (x.r.pat.size ≤ 200) && decide (x.r.prog.size ≤ 200) && decide (x.r.tags.length ≤ 10) && decide (x.r.vary.length ≤ 10) && fewCR x.r.allow)
  · rw [Bool.false_and, Bool.false_and]; exact rFew22_head x w hR hc
  · rw [Bool.true_and]; exact rFew22_tail x w hR hc
end Go.Proofs.YtjhlpkhfdghngaaGreatDoor
namespace Go.Proofs.YtjhlpkhfdghngaaGreatDoor
open Go.RowKit Go.Sort
set_option linter.unusedVariables false
set_option linter.unusedSimpArgs false
set_option maxRecDepth 100000
set_option maxHeartbeats 4000000 in
theorem rFewRules22_any (p : RuleM → Bool) (A : Option Addr) (n c : Nat) (L : List RuleM) (most : Int) (w : World) (hL : RulesRead w A n L) (hn : n ≤ 9223372036854775807)
    (cP : ∀ x ∈ L, ∀ W, Below w.heap.size w W → Calls Tryz.prog 40 #[x.val] W (Ret W (.bool (p x)))) :
    Calls Tryz.prog 10 #[.slice A n c, .int .i64 most] w (Ret w (.bool (L.all p && decide ((n : Int) ≤ most)))) := by
  have hl : L.length = n := hL.len
  obtain ⟨V, hV⟩ : ∃ V, V = L.all p := ⟨_, rfl⟩
  rw [← hV]
  have HP := Lib.hid cP; have HA := Lib.hid hL; have HL := Lib.hid hl; have HV := Lib.hid hV
  clear cP hL hl hV
  go_enter Tryz.func10, Tryz.ntmps10
  go_wp2
  go_loopw [5] (fun i wr => ∃ k : Nat, k ≤ n ∧ i = .int .i64 k ∧ Hid (V = (L.drop k).all p) ∧ Below w.heap.size w wr) (fun i _ => n - (intOf i).toNat)
  case atStart => exact ⟨0, by omega, rfl, Lib.hid (by rw [HV.out]; rfl), Below.refl _ _⟩
  case round =>
    obtain ⟨k, hk, rfl, HI, hb⟩ := hrel
    by_cases hlt : k < n
    · obtain ⟨x, hx⟩ : ∃ x, L[k]? = some x := ⟨_, List.getElem?_eq_getElem (by have := HL.out; omega)⟩
      obtain ⟨_, b, o, rfl, hcell⟩ := (HA.out.keep hb).at_ hx
      have hld := rule_load wr b (o + k * 18) x hcell
      have hc := HP.out x (List.mem_of_getElem? hx) wr hb
      have hk0 : (0 : Int) ≤ (k : Int) := by omega
      have hk1 : (k : Int) < (n : Int) := by omega
      clear hcell
      have hxv : x.val = x.val := rfl
      generalize x.val = xv at hld hc
      clear hxv
      have HLD := Lib.hid hld
      clear hld
      cases hpx : p x
      · rw [hpx] at hc
        have HC := Lib.hid hc
        have hVf : V = false := by rw [HI.out]; exact all_stop _ _ _ _ hx hpx
        subst hVf
        clear hc hx hpx
        rw [Bool.false_and]
        go_wp2_with (first | (refine wpList_load_addr rfl _ _ rfl ⟨b, o + k * 18, none⟩ xv rfl HLD.out ?_) | (go_at_call 40; refine (HC.out).mono ?_; rintro e w2 ⟨rfl, hb2⟩))
        go_ret
        exact ⟨rfl, bstep hb hb2⟩
      · rw [hpx] at hc
        have HC := Lib.hid hc
        have hVs : V = (L.drop (k + 1)).all p := by rw [HI.out]; exact all_step _ _ _ _ hx hpx
        have HI2 := Lib.hid hVs
        clear hc hx hpx hVs
        go_wp2_with (first | (refine wpList_load_addr rfl _ _ rfl ⟨b, o + k * 18, none⟩ xv rfl HLD.out ?_) | (go_at_call 40; refine (HC.out).mono ?_; rintro e w2 ⟨rfl, hb2⟩))
        exact ⟨⟨k + 1, by omega, by go_num, HI2, bstep hb hb2⟩, by simp [intOf]; omega⟩
    · have hVt : V = true := by rw [HI.out, List.drop_eq_nil_of_le (by have := HL.out; omega)]; rfl
      subst hVt
      rw [Bool.true_and]
      go_wp2
      go_ret
      exact ⟨rfl, hb⟩
end Go.Proofs.YtjhlpkhfdghngaaGreatDoor
namespace Go.Proofs.YtjhlpkhfdghngaaGreatDoor
open Go.RowKit Go.Sort
set_option linter.unusedVariables false
set_option linter.unusedSimpArgs false
set_option maxRecDepth 100000
section
variable {P : Program}
theorem wp_load_addr {o : Oper} {a : Act} {w : World} {K : Act → World → Prop} {Q : Exit → Act → World → Prop} (ty : TypeId) (x : Operand) (ho : o.op = .load ty x)
    (ad : Addr) (v : Value) (hx : a.eval x = .pointer (some ad)) (hl : (loadVar ty ad).run P w = .ok v w) (h : K (a.put o.dst v) w) : o.wp P a w K Q := by
  unfold Oper.wp execOp
  simp only [ho, hx, Instr.loadAt, Instr.sureAddr, Sem.run_bind, Sem.run_pure, Result.andThen_ok, hl]
  exact h
end
end Go.Proofs.YtjhlpkhfdghngaaGreatDoor
namespace Go.Proofs.YtjhlpkhfdghngaaGreatDoor
open Go.RowKit Go.Sort
set_option linter.unusedVariables false
set_option linter.unusedSimpArgs false
set_option maxRecDepth 100000
theorem splitR_nil : (splitR ⟨#[]⟩).1 = [] := by unfold splitR; rw [if_pos (by rw [Lib.toList_data]; rfl)]
theorem unruled {l : List RuleP} {p s a : ByteArray} {is : Bool} (hg : GapPost p ((l.filter fun r => r.2.isEmpty).map (·.1)) s is) :
    (is = true → matchB p s = true ∧ chooseR l s ⟨#[]⟩ = none) ∧ (is = false → matchB p a = true → (chooseR l a ⟨#[]⟩).isSome = true) := by
  have hno : ∀ (r : RuleP) (x : ByteArray), mtR r x ⟨#[]⟩ = true ↔ matchB r.1 x = true ∧ r.2 = [] := by
    intro r x
    unfold mtR
    rw [Bool.and_eq_true, all_has]
    refine and_congr_right fun _ => ⟨fun h => ?_, fun h => by rw [h]; intro y hy; cases hy⟩
    cases hr : r.2 with
    | nil => rfl
    | cons y ys =>
      have := (hasTag_iff _ _).1 (h y (by rw [hr]; simp))
      rw [splitR_nil] at this
      cases this
  constructor
  · rintro rfl
    obtain ⟨h1, h2⟩ := gap_found hg
    refine ⟨h1, ?_⟩
    unfold chooseR
    rw [List.findIdx?_eq_none_iff]
    intro r hr
    cases hm : mtR r s ⟨#[]⟩
    · rfl
    · obtain ⟨g1, g2⟩ := (hno r s).1 hm
      have := h2 r.1 (List.mem_map.2 ⟨r, List.mem_filter.2 ⟨hr, by rw [g2]; rfl⟩, rfl⟩)
      rw [this] at g1
      cases g1
  · rintro rfl hm
    obtain ⟨q, hq, e⟩ := gap_not hg a hm
    obtain ⟨r, hr, rfl⟩ := List.mem_map.1 hq
    obtain ⟨hr, hr2⟩ := List.mem_filter.1 hr
    have hmt : mtR r a ⟨#[]⟩ = true := (hno r a).2 ⟨e, by simpa using hr2⟩
    cases hc : chooseR l a ⟨#[]⟩ with
    | some i => rfl
    | none =>
      unfold chooseR at hc
      rw [List.findIdx?_eq_none_iff] at hc
      rw [hc r hr] at hmt
      cases hmt
end Go.Proofs.YtjhlpkhfdghngaaGreatDoor
namespace Go.Proofs.YtjhlpkhfdghngaaGreatDoor
open Go.RowKit Go.Sort
set_option linter.unusedVariables false
set_option linter.unusedSimpArgs false
set_option maxRecDepth 100000
theorem idx_from {α : Type} (p : α → Bool) : ∀ (l : List α) (b : Nat), idxA p l b = -1 ∨ (b : Int) ≤ idxA p l b
  | [], _ => .inl rfl
  | y :: l, b => by
    have ih := idx_from p l (b + 1)
    unfold idxA
    split
    · right; omega
    · rcases ih with h | h
      · exact .inl h
      · right; omega
theorem idx_link (a t : ByteArray) : ∀ (l : List RuleM) (b k : Nat), idxA (fun x => mtX x.r a t) l b = ((b + k : Nat) : Int) ↔ (l.map ruleP).findIdx? (fun r => mtR r a t) = some k
  | [], b, k => by
    constructor
    · intro h
      unfold idxA at h
      omega
    · intro h
      simp at h
  | x :: l, b, k => by
    rw [List.map_cons, List.findIdx?_cons]
    unfold idxA
    have e : mtR (ruleP x) a t = mtX x.r a t := rfl
    rw [e]
    cases hx : mtX x.r a t
    · have ih := idx_link a t l (b + 1)
      have hg := idx_from (fun x => mtX x.r a t) l (b + 1)
      rw [if_neg (by decide), if_neg (by decide)]
      cases k with
      | zero =>
        constructor
        · intro h
          omega
        · intro h
          cases hf : (l.map ruleP).findIdx? (fun r => mtR r a t) with
          | none => rw [hf] at h; cases h
          | some j => rw [hf] at h; simp at h
      | succ k =>
        rw [show b + (k + 1) = b + 1 + k by omega, ih k]
        cases hf : (l.map ruleP).findIdx? (fun r => mtR r a t) with
        | none => simp
        | some j => simp
    · rw [if_pos rfl, if_pos rfl]
      constructor
      · intro h
        have : k = 0 := by omega
        rw [this]
      · intro h
        have h2 : 0 = k := Option.some.inj h
        rw [← h2]
        rfl
theorem choose_link (L : List RuleM) (a t : ByteArray) (k : Nat) : chooseX L a t = (k : Int) ↔ chooseR (L.map ruleP) a t = some k := by
  have h := idx_link a t L 0 k
  rwa [Nat.zero_add] at h
end Go.Proofs.YtjhlpkhfdghngaaGreatDoor
namespace Go.Proofs.YtjhlpkhfdghngaaGreatDoor
open Go.RowKit Go.Sort
set_option linter.unusedVariables false
set_option linter.unusedSimpArgs false
set_option maxRecDepth 100000
def wholeP (cust : ByteArray) : ByteArray := cust ++ ⟨#[47, 42, 42]⟩
theorem whole_comp {cust : ByteArray} (h : isNameB cust = true) : compileB (wholeP cust) = some ⟨⟨0, cust⟩, [], true⟩ := by
  have h1 : compileB (patS ⟨⟨0, cust⟩, [], true⟩) = some ⟨⟨0, cust⟩, [], true⟩ := compile_str ⟨.inl ⟨rfl, h⟩, fun p hp => (by cases hp), by simp⟩
  have h2 : patS ⟨⟨0, cust⟩, [], true⟩ = wholeP cust := by
    refine bytes_ext ?_
    unfold patS wholeP stringP strL joinS
    simp [toB, lists, Lib.join]
  rw [← h2]; exact h1
def unrK (L : List RuleM) (k : Nat) : List ByteArray := ((L.take k).filter fun q => q.r.tags.isEmpty).map (·.r.pat)
theorem unrK_eq (L : List RuleM) : unrK L L.length = ((L.map ruleP).filter fun r => r.2.isEmpty).map (·.1) := by
  unfold unrK
  rw [List.take_length, List.filter_map, List.map_map]
  rfl
theorem unrK_succ {L : List RuleM} {k : Nat} {x : RuleM} (h : L[k]? = some x) : unrK L (k + 1) = if x.r.tags.isEmpty = true then unrK L k ++ [x.r.pat] else unrK L k := by
  unfold unrK
  rw [List.take_add_one, h, List.filter_append, List.map_append]
  by_cases hs : x.r.tags.isEmpty = true
  · rw [if_pos hs]; simp only [Option.toList, List.filter_cons, hs, if_pos, List.filter_nil, List.map_cons, List.map_nil]
  · rw [if_neg hs]; simp only [Option.toList, List.filter_cons, hs, if_neg, List.filter_nil, List.map_nil, List.append_nil, Bool.false_eq_true, if_false, not_false_eq_true]
theorem unrK_len (L : List RuleM) (k : Nat) : (unrK L k).length ≤ k := by
  unfold unrK
  rw [List.length_map]
  exact Nat.le_trans (List.length_filter_le _ _) (by rw [List.length_take]; omega)
end Go.Proofs.YtjhlpkhfdghngaaGreatDoor
namespace Go.Proofs.YtjhlpkhfdghngaaGreatDoor
open Go.RowKit Go.Sort
set_option linter.unusedVariables false
set_option linter.unusedSimpArgs false
set_option maxRecDepth 100000
theorem infPolU : (Tryz.prog.info? 24).map (·.size) = some 3 := by kernel_rfl
theorem unPol {W : World} {g : Nat} {cust : ByteArray} {party : Int} {A : Option Addr} {n c : Nat} (h : Box1 W g 24 #[.string cust, .int .i64 party, .slice A n c]) : (loadVar 24 ⟨g, 0, none⟩).run Tryz.prog W = .ok (.agg #[.string cust, .int .i64 party, .slice A n c]) W :=
  run_loadVar_row (P := Tryz.prog) W g _ 24 _ _ _ h Tryz.underlying24 rfl infPolU
theorem Box1.low {B : Nat} {W W' : World} {g : Nat} {t : TypeId} {X : Array Value} (h : Box1 W g t X) (hb : Below B W W') (hg : g < B) : Box1 W' g t X := (hb.block g hg).trans h
theorem checkU_ok (cust : ByteArray) : ∀ (l : List RuleV) (seen : List ByteArray), checkL cust l seen = 0 → ∀ r ∈ l, validR r = true
  | [], _, _, r, h => by cases h
  | x :: l, seen, h, r, hr => by
    unfold checkL at h
    split at h
    · cases h
    · rename_i h1
      split at h
      · cases h
      · split at h
        · cases h
        · rcases List.mem_cons.1 hr with rfl | hr
          · simpa using h1
          · exact checkU_ok cust l _ h r hr
theorem checkU {cust : ByteArray} {party : Int} {l : List RuleV} (h : checkP cust party l = 0) : isNameB cust = true ∧ ∀ r ∈ l, validR r = true := by
  unfold checkP at h
  split at h
  · cases h
  · rename_i h1
    split at h
    · cases h
    · refine ⟨?_, checkU_ok _ _ _ h⟩
      cases hc : isNameB cust
      · exact absurd (.inl hc) h1
      · rfl
def UnPost (cust : ByteArray) (party : Int) (L : List RuleM) (w : World) (e : Ending) (w' : World) : Prop :=
  Below w.heap.size w w' ∧ ((checkP cust party (L.map (·.r)) ≠ 0 ∧ e = .returned (.tuple #[.string ⟨#[]⟩, .bool false, .int .i64 1])) ∨ (checkP cust party (L.map (·.r)) = 0 ∧ ∃ s is, e = .returned (.tuple #[.string s, .bool is, .int .i64 0]) ∧ GapPost (wholeP cust) (unrK L L.length) s is ∧ s.size ≤ 4096))
set_option maxHeartbeats 8000000 in
theorem unruled_any (cust : ByteArray) (party : Int) (A : Option Addr) (n c : Nat) (L : List RuleM) (w : World) (hL : RulesRead w A n L) (hf : ∀ x ∈ L, RuleFits x.r) (hn : n ≤ 10) (hcs : cust.size ≤ 100) (hE : Env w) (hT : Tab w) :
    Calls Tryz.prog 30 #[polV cust party A n c] w (UnPost cust party L w) := by
  have hlen := hL.len
  have cC := fun (W : World) (hb : Below w.heap.size w W) => check_any cust party A n c L W (hL.keep hb) hf (by omega) (hE.keep hb)
  unfold polV at cC ⊢
  obtain ⟨i0, hi0, hz0, hz1, hz2⟩ := info_parts infStrW
  have HI := Lib.hid (And.intro hi0 (And.intro hz0 (And.intro hz1 hz2)))
  clear hi0 hz0 hz1 hz2
  have hgap := fun (h0 : checkP cust party (L.map (·.r)) = 0) (W : World) (hb : Below w.heap.size w W) (B : Option Addr) (d : Nat) (hR : Reads W 1 B (unrK L n).length ((unrK L n).map .string)) => show Calls Tryz.prog 71 #[.string (wholeP cust), .slice B (unrK L n).length d] W fun e w' => ∃ s is, e = .returned (.tuple #[.string s, .bool is]) ∧ GapPost (wholeP cust) (unrK L n) s is ∧ s.size ≤ 4096 ∧ Below W.heap.size W w' by
    obtain ⟨h1, h2⟩ := checkU h0
    have hall : ((unrK L n).all fun q => (compileB q).isSome) = true := by
      rw [List.all_eq_true]
      intro q hq
      unfold unrK at hq
      obtain ⟨y, hy, rfl⟩ := List.mem_map.1 hq
      have hyl := List.mem_of_mem_take (List.mem_filter.1 hy).1
      exact (rule_ok (h2 y.r (List.mem_map.2 ⟨y, hyl, rfl⟩))).pat
    obtain ⟨ys, e⟩ := all_comp _ hall
    have hul := unrK_len L n
    exact gapT_any (wholeP cust) _ ys B (unrK L n).length d (unrK L n) W (whole_comp h1) e (by unfold wholeP; rw [ByteArray.size_append]; have : (⟨#[47, 42, 42]⟩ : ByteArray).size = 3 := rfl; omega) hR (by omega) (fun q hq => by
      unfold unrK at hq
      obtain ⟨y, hy, rfl⟩ := List.mem_map.1 hq
      have hyl := List.mem_of_mem_take (List.mem_filter.1 hy).1
      have := (hf y hyl).pat
      omega) (hE.keep hb) (hT.keep hb)
  obtain ⟨P, hP⟩ : ∃ P, P = UnPost cust party L w := ⟨_, rfl⟩
  rw [← hP]
  have HP := Lib.hid hP
  obtain ⟨q, hq⟩ : ∃ q, q = checkP cust party (L.map (·.r)) := ⟨_, rfl⟩
  rw [← hq] at cC hgap
  have HQ := Lib.hid hq
  have HC := Lib.hid cC; have HG := Lib.hid hgap; have HL := Lib.hid hL; have HLN := Lib.hid hlen
  clear hP cC hgap hL hf hlen hq hE hT
  by_cases h0 : q = 0
  rotate_left
  · have e1 : (q == 0) = false := beq_eq_false_iff_ne.2 h0
    have e2 : (q != 0) = true := bne_iff_ne.2 h0
    go_enter Tryz.func30, Tryz.ntmps30
    go_upto_region 1 with fail
    generalize hw0 : World.alloc _ _ = w0
    have hS : Box1 w0 w.heap.size 24 #[.string cust, .int .i64 party, .slice A n c] := by rw [← hw0]; exact heap_alloc_new w _
    have hbw : Below w.heap.size w w0 := by rw [← hw0]; exact balloc (Below.refl _ _) _
    clear hw0
    go_wp2_with (first | (refine wpList_load_addr rfl 24 _ rfl ⟨w.heap.size, 0, none⟩ (.agg #[.string cust, .int .i64 party, .slice A n c]) rfl (unPol hS) ?_) | (go_at_call 14; refine (HC.out _ hbw).mono ?_; rintro e w2 ⟨rfl, hb2⟩))
    go_ret3
    rw [HP.out]
    exact ⟨bstep hbw hb2, .inl ⟨by rw [← HQ.out]; exact h0, rfl⟩⟩
  · subst h0
    go_enter Tryz.func30, Tryz.ntmps30
    go_upto_region 1 with fail
    generalize hw0 : World.alloc _ _ = w0
    have hS : Box1 w0 w.heap.size 24 #[.string cust, .int .i64 party, .slice A n c] := by rw [← hw0]; exact heap_alloc_new w _
    have hbw : Below w.heap.size w w0 := by rw [← hw0]; exact balloc (Below.refl _ _) _
    have hs0 : w.heap.size + 1 ≤ w0.heap.size := by rw [← hw0]; simp
    clear hw0
    go_upto_region 3 with (first | (refine wpList_load_addr rfl 24 _ rfl ⟨w.heap.size, 0, none⟩ (.agg #[.string cust, .int .i64 party, .slice A n c]) rfl (unPol hS) ?_) | (go_at_call 14; refine (HC.out _ hbw).mono ?_; rintro e w2 ⟨rfl, hb2⟩))
    have hS2 := hS.keep hb2
    have hbw2 := bstep hbw hb2
    have hs2 := hb2.size
    clear hS
    have c2 : w2.cell? ⟨w.heap.size, 2, none⟩ = some (.slice A n c) := hS2.cell rfl
    have HS2 := Lib.hid hS2
    have hown0 : w2.ownsRow (w.heap.size + 1) 9 1 (.slice none 0 0) (unrK L 0).length ((unrK L 0).map .string) := World.ownsRow_nil _ _ _ _
    have HO0 := Lib.hid hown0
    clear hS2 hown0 hbw hb2
    go_wp2_with fail
    clear c2
    go_loopw [5, 16] (fun ov iv wr => ∃ (k : Nat) (B : Option Addr) (d : Nat), k ≤ n ∧ iv = .int .i64 k ∧ ov = .slice B (unrK L k).length d ∧ Hid (wr.ownsRow (w.heap.size + 1) 9 1 (.slice B (unrK L k).length d) (unrK L k).length ((unrK L k).map .string)) ∧ Hid (Box1 wr w.heap.size 24 #[.string cust, .int .i64 party, .slice A n c]) ∧ Below w.heap.size w wr ∧ w.heap.size + 1 ≤ wr.heap.size) (fun _ iv _ => n - (intOf iv).toNat)
    case atStart => exact ⟨0, none, 0, by omega, rfl, rfl, HO0, HS2, hbw2, by omega⟩
    case round =>
      obtain ⟨k, B, d, hk, rfl, rfl, HO, HS, hbr, hsr⟩ := hrel
      clear HO0 HS2 hbw2
      by_cases hlk : k < n
      · obtain ⟨y, hy⟩ : ∃ y, L[k]? = some y := ⟨_, List.getElem?_eq_getElem (by have := HLN.out; omega)⟩
        obtain ⟨_, b, o, rfl, hcell⟩ := (HL.out.keep hbr).at_ hy
        have hld := rule_load wr b (o + k * 18) y hcell
        have hsucc := unrK_succ hy
        have hkl := unrK_len L k
        have hc1 : y.cells.toArray[1]? = some (.string y.r.pat) := rfl
        have hc2 : y.cells.toArray[2]? = some (.slice y.T y.r.tags.length y.ct) := rfl
        have hone : y.cells.toArray.all (·.oneCell') = true := by rw [List.all_toArray]; rfl
        have hsz2 : y.cells.toArray.size = 18 := by rw [List.size_toArray, y.cells_len]
        have hi18 : (Tryz.prog.info? 33).map (·.size) = some y.cells.toArray.size := by rw [hsz2]; exact infRule
        have hsz : y.cells.toArray.size = (#[.string ⟨#[]⟩, .string ⟨#[]⟩, .slice none 0 0, .int .i64 0, .int .i64 0, .int .i64 0, .int .i64 0, .slice none 0 0, .int .i64 0, .int .i64 0, .string ⟨#[]⟩, .slice none 0 0, .slice none 0 0, .slice none 0 0, .int .i64 0, .bool false, .int .i64 0, .string ⟨#[]⟩] : Array Value).size := by rw [hsz2]; rfl
        unfold RuleM.val at hld
        generalize y.cells.toArray = X at *
        have hte : y.r.tags.isEmpty = decide (y.r.tags.length = 0) := by cases y.r.tags <;> rfl
        rw [hte] at hsucc
        generalize y.r.tags.length = tl at *
        generalize y.T = T at *
        generalize y.ct = ct at *
        generalize y.r.pat = pt at *
        have HLD := Lib.hid hld; have HC1 := Lib.hid hc1; have HC2 := Lib.hid hc2; have HON := Lib.hid hone; have HI18 := Lib.hid hi18; have HSZ := Lib.hid hsz; have HSU := Lib.hid hsucc
        clear hld hc1 hc2 hone hsz2 hi18 hsz hcell hy hsucc hte
        have hk0 : (0 : Int) ≤ (k : Int) := by omega
        have hk1 : (k : Int) < (n : Int) := by omega
        have hsg : wr.heap.size < wr.heap.size + 1 := by omega
        by_cases htl : tl = 0
        rotate_left
        · have hsu := HSU.out
          rw [decide_eq_false htl, if_neg (by decide)] at hsu
          have e3 : ((tl : Int) == 0) = false := beq_eq_false_iff_ne.2 (by omega)
          have e4 : decide ((tl : Int) = 0) = false := decide_eq_false (by omega)
          have HSU2 := Lib.hid hsu
          clear hsu HSU
          go_wp2_with (first | (refine wpList_load_addr rfl 33 _ rfl ⟨b, o + k * 18, none⟩ (.agg X) rfl HLD.out ?_) | (refine wpList_store_row rfl 33 _ _ rfl wr.heap.size X rfl rfl _ #[.string ⟨#[]⟩, .string ⟨#[]⟩, .slice none 0 0, .int .i64 0, .int .i64 0, .int .i64 0, .int .i64 0, .slice none 0 0, .int .i64 0, .int .i64 0, .string ⟨#[]⟩, .slice none 0 0, .slice none 0 0, .slice none 0 0, .int .i64 0, .bool false, .int .i64 0, .string ⟨#[]⟩] ((heap_alloc_new wr _).trans rfl) HI18.out HSZ.out.symm HON.out ?_; generalize hw6 : World.setRow _ _ _ = w6; have B6 : Box1 w6 wr.heap.size 33 X := (by rw [← hw6]; exact setRow_heap _ _ _ _ _ _ (heap_alloc_new wr _)); have hb6 : Below wr.heap.size wr w6 := (by rw [← hw6]; exact below_setRow ((Below.refl _ _).alloc (Nat.le_refl _) _) (Nat.le_refl _) _); clear hw6; have hs6 := hb6.size; have x2 := B6.cell HC2.out; have x1 := B6.cell HC1.out))
          have hsu := HSU2.out
          refine ⟨⟨k + 1, B, d, by omega, by go_num, by rw [hsu], by rw [hsu]; exact Lib.hid (ownsRow_keep HO.out hb6), Lib.hid (HS.out.keep hb6), bstep hbr hb6, by omega⟩, by simp [intOf]; omega⟩
        · subst htl
          have hsu := HSU.out
          rw [decide_eq_true rfl, if_pos rfl] at hsu
          have hsl : (unrK L (k + 1)).length = (unrK L k).length + 1 := by rw [hsu]; simp
          have HSU2 := Lib.hid hsu; have HSL := Lib.hid hsl
          clear hsu HSU hsl
          go_wp2_with (first | (refine wpList_load_addr rfl 33 _ rfl ⟨b, o + k * 18, none⟩ (.agg X) rfl HLD.out ?_) | (refine wpList_store_row rfl 33 _ _ rfl wr.heap.size X rfl rfl _ #[.string ⟨#[]⟩, .string ⟨#[]⟩, .slice none 0 0, .int .i64 0, .int .i64 0, .int .i64 0, .int .i64 0, .slice none 0 0, .int .i64 0, .int .i64 0, .string ⟨#[]⟩, .slice none 0 0, .slice none 0 0, .slice none 0 0, .int .i64 0, .bool false, .int .i64 0, .string ⟨#[]⟩] ((heap_alloc_new wr _).trans rfl) HI18.out HSZ.out.symm HON.out ?_; generalize hw6 : World.setRow _ _ _ = w6; have B6 : Box1 w6 wr.heap.size 33 X := (by rw [← hw6]; exact setRow_heap _ _ _ _ _ _ (heap_alloc_new wr _)); have hb6 : Below wr.heap.size wr w6 := (by rw [← hw6]; exact below_setRow ((Below.refl _ _).alloc (Nat.le_refl _) _) (Nat.le_refl _) _); clear hw6; have hs6 := hb6.size; have x2 := B6.cell HC2.out; have x1 := B6.cell HC1.out) | (at_builtin; refine wpList_append_own _ rfl _ _ 27 rfl (w.heap.size + 1) 9 i0 (.string ⟨#[]⟩) 1 16 Tryz.underlying27 HI.out.1 HI.out.2.1 HI.out.2.2.1 HI.out.2.2.2 rfl (by decide) _ _ _ rfl ((ownsRow_keep HO.out hb6).alloc _) ⟨w6.heap.size, 0, none⟩ 1 1 [.string pt] rfl rfl (cell_one_new _ _ _) (by simp [Value.oneCell']) (by unfold maxLen; omega) (by omega) (by simp; omega) ?_; intro v' w8 hown' hgrow _; obtain ⟨g', cap', rfl⟩ := ownsRow_succ hown'))
          have hb8 : Below (w.heap.size + 1) w6 w8 := ((Below.refl _ _).alloc (by omega) _).grown hgrow (by simp; omega) (fun r e => ownsRow_block HO.out r e)
          have hs8 := hb8.size
          have hsu := HSU2.out; have hsl := HSL.out
          refine ⟨⟨k + 1, some ⟨g', 0, none⟩, cap', by omega, by go_num, by rw [hsl], by rw [hsl, hsu, List.map_append]; exact Lib.hid hown', Lib.hid ((HS.out.keep hb6).low hb8 (by omega)), (bstep hbr hb6).trans (hb8.mono (by omega)), by omega⟩, by simp [intOf]; omega⟩
      · obtain rfl : k = n := by omega
        have hre := Reads.of_own HO.out
        have HRE := Lib.hid hre
        have c0 : wr.cell? ⟨w.heap.size, 0, none⟩ = some (.string cust) := HS.out.cell rfl
        clear hre HO
        have hG := HG.out (by simp) wr hbr B d HRE.out
        unfold wholeP at hG
        have HG2 := Lib.hid hG
        clear hG HG
        go_upto_region 10 with fail
        go_wp2_with fail
        refine HG2.out.mono ?_
        rintro e w3 ⟨s, is, rfl, hgp, hgz, hb3⟩
        have HGP := Lib.hid hgp; have HGZ := Lib.hid hgz
        clear hgp hgz c0 HG2
        go_wp2_with fail
        go_ret3
        rw [HP.out]
        exact ⟨bstep hbr hb3, .inr ⟨HQ.out.symm, s, is, rfl, by rw [HLN.out]; exact HGP.out, HGZ.out⟩⟩
end Go.Proofs.YtjhlpkhfdghngaaGreatDoor
