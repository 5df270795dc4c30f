/- PolicyChoosesTheFirst: the law returns true for every list of rules, address and two tag lists. -/
import Derived.Test.YtdlbfjoemabfpaaGreatDoorEFY0
import Derived.Test.YtdlbfjoemabfpaaGreatDoorEQZ39
namespace Go.Proofs.YtdlbfjoemabfpaaGreatDoor
open Go.RowKit Go.Sort
set_option linter.unusedVariables false
set_option linter.unusedSimpArgs false
set_option maxRecDepth 100000
theorem splitR_size {s p : ByteArray} (h : p ∈ (splitR s).1) : p.size ≤ s.size := by
 unfold splitR at h
 split at h
 ·cases h
 ·split at h
  ·exact splitB_size 44 s p h
  ·cases h
theorem splitR_num (s : ByteArray) : (splitR s).1.length ≤ s.size + 1 := by
 unfold splitR
 split
 ·simp
 ·split
  ·exact splitB_num 44 s
  ·simp
theorem tagsR_size (ps : List ByteArray) : (tagsR ps).1.size ≤ 4096 := by
 unfold tagsR
 split
 ·decide
 ·split
  ·decide
  ·rename_i h
   show (toB (tagsL ps)).size ≤ 4096
   rw [Lib.size_eq]
   simp [toB]
   omega
def foundB (cv : Int) (l : List Nat) : Bool := decide (cv = -1) || l.any fun k => decide ((k : Int) = cv)
theorem found_step (cv : Int) {l : List Nat} {j k : Nat} (h : l[j]? = some k) : foundB cv (l.take (j + 1)) = (foundB cv (l.take j) || decide ((k : Int) = cv)) := by
 unfold foundB
 rw [List.take_add_one, h, List.any_append]
 simp [Bool.or_assoc]
theorem infStrF : (Tryz.prog.info? 9).map (fun i => (i.zero, i.size, i.bytes)) = some (some (.string ⟨#[]⟩), 1, 16) := by kernel_rfl
theorem run_bs0 (W : World) : (Instr.buildSlice 27 0 #[]).run Tryz.prog W = .ok (.slice (some ⟨W.heap.size, 0, none⟩) 0 0) (W.alloc (.cells #[] 9)) := by kernel_rfl
theorem meas_succ (m j : Nat) (h : j < m) : m - (intOf (.int .i64 ((j : Int) + 1))).toNat < m - (intOf (.int .i64 (j : Int))).toNat := by
 simp [intOf]; omega
theorem own_reads {w : World} {base n : Nat} {v : Value} {xs : List Value} {e : TypeId} (h : w.ownsRow base e 1 v n xs) : ∃ A c, v = .slice A n c ∧ Reads w 1 A n xs := by
 have h0 := h
 rcases h0.2 with ⟨e1, e2⟩ | ⟨g, cap, cur, e1, _⟩
 ·subst e1; subst e2
  exact ⟨none, 0, rfl, Reads.of_own h⟩
 ·subst e1
  exact ⟨_, cap, rfl, Reads.of_own h⟩
theorem strs_oneF (l : List ByteArray) : ∀ u ∈ l.map Value.string, u.oneCell' = true := by
 intro u hu
 obtain ⟨s, _, rfl⟩ := List.mem_map.1 hu
 rfl
set_option maxHeartbeats 16000000 in
theorem lawFi (A : Option Addr) (n c : Nat) (L : List RuleM) (ad tg mo : ByteArray) (w : World) (hL : RulesRead w A n L) (hn : n ≤ 9223372036854775807) (hE : LEnv w) : Calls Tryz.prog 5 #[.slice A n c, .string ad, .string tg, .string mo] w (Ret w (.bool true)) := by
 have hfw := fun W (hb : Below w.heap.size w W) => rFewRules22_any (fun x => fewR x.r) A n c L 12 W (hL.keep hb) hn (fun x hx W' hb' => rFew22_any x W' ((hL.each x hx).keep (bstep hb hb')))
 have hrg := fun (h : ∀ x ∈ L, RuleFits x.r) (hn : n ≤ 12) W (hb : Below w.heap.size w W) => rRight22_any (fun x => validR x.r) A n c L W (hL.keep hb) (by omega) (fun x hx W' hb' => rValid22_any x W' ((hL.each x hx).keep (bstep hb hb')) (h x hx))
 have hfa := fun (h : (L.all (fun x => fewR x.r) && decide ((n : Int) ≤ 12)) = true) => few_all hL h
 obtain ⟨i0, hi0, hz0, hz1, hz2⟩ := info_parts infStrF
 have HI := Lib.hid (And.intro hi0 (And.intro hz0 (And.intro hz1 hz2)))
 clear hi0 hz0 hz1 hz2
 have HF := Lib.hid hfw; have HE := Lib.hid hE
 clear hfw hE
 cases h1 : (L.all (fun x => fewR x.r) && decide ((n : Int) ≤ 12))
 ·rw [h1] at HF
  clear hrg hfa h1 hL
  go_enter Tryz.func5, Tryz.ntmps5
  have hS : Below w.heap.size w w := Below.refl _ _
  go_wp2_with (first | (go_at_call 9; refine (HF.out _ hS).mono ?_; (rintro e w' ⟨rfl, hb'⟩; replace hS := bstep hS hb'; clear hb')) | (go_at_call 10; refine (sanL _ (HE.out.keep hS)).mono ?_; (rintro e w' ⟨rfl, hb'⟩; replace hS := bstep hS hb'; clear hb')))
  go_ret
  exact ⟨rfl, hS⟩
 rw [h1] at HF
 obtain ⟨hfit, hn12, hrf⟩ := hfa h1
 have HR := Lib.hid (hrg hfit hn12)
 clear hrg hfa h1
 cases h2 : L.all (fun x => validR x.r)
 ·rw [h2] at HR
  clear h2 hL hfit hrf
  go_enter Tryz.func5, Tryz.ntmps5
  have hS : Below w.heap.size w w := Below.refl _ _
  go_wp2_with (first | (go_at_call 9; refine (HF.out _ hS).mono ?_; (rintro e w' ⟨rfl, hb'⟩; replace hS := bstep hS hb'; clear hb')) | (go_at_call 17; refine (HR.out _ hS).mono ?_; (rintro e w' ⟨rfl, hb'⟩; replace hS := bstep hS hb'; clear hb')) | (go_at_call 10; refine (sanL _ (HE.out.keep hS)).mono ?_; (rintro e w' ⟨rfl, hb'⟩; replace hS := bstep hS hb'; clear hb')))
  go_ret
  exact ⟨rfl, hS⟩
 rw [h2] at HR
 have hok : ∀ x ∈ L, RuleOk x.r := fun x hx => rule_ok (List.all_eq_true.1 h2 x hx)
 clear h2
 by_cases h3 : ad.size ≤ 300
 rotate_left
 ·have d3 : decide ((300 : Int) < (ad.size : Int)) = true := decide_eq_true (by omega)
  clear hL hfit hrf hok
  go_enter Tryz.func5, Tryz.ntmps5
  have hS : Below w.heap.size w w := Below.refl _ _
  go_wp2_with (first | (go_at_call 9; refine (HF.out _ hS).mono ?_; (rintro e w' ⟨rfl, hb'⟩; replace hS := bstep hS hb'; clear hb')) | (go_at_call 17; refine (HR.out _ hS).mono ?_; (rintro e w' ⟨rfl, hb'⟩; replace hS := bstep hS hb'; clear hb')) | (go_at_call 10; refine (sanL _ (HE.out.keep hS)).mono ?_; (rintro e w' ⟨rfl, hb'⟩; replace hS := bstep hS hb'; clear hb')))
  go_ret
  exact ⟨rfl, hS⟩
 have d3 : decide ((300 : Int) < (ad.size : Int)) = false := decide_eq_false (by omega)
 by_cases h4 : tg.size ≤ 300
 rotate_left
 ·have d4 : decide ((300 : Int) < (tg.size : Int)) = true := decide_eq_true (by omega)
  clear hL hfit hrf hok
  go_enter Tryz.func5, Tryz.ntmps5
  have hS : Below w.heap.size w w := Below.refl _ _
  go_wp2_with (first | (go_at_call 9; refine (HF.out _ hS).mono ?_; (rintro e w' ⟨rfl, hb'⟩; replace hS := bstep hS hb'; clear hb')) | (go_at_call 17; refine (HR.out _ hS).mono ?_; (rintro e w' ⟨rfl, hb'⟩; replace hS := bstep hS hb'; clear hb')) | (go_at_call 10; refine (sanL _ (HE.out.keep hS)).mono ?_; (rintro e w' ⟨rfl, hb'⟩; replace hS := bstep hS hb'; clear hb')))
  go_ret
  exact ⟨rfl, hS⟩
 have d4 : decide ((300 : Int) < (tg.size : Int)) = false := decide_eq_false (by omega)
 by_cases h5 : mo.size ≤ 300
 rotate_left
 ·have d5 : decide ((300 : Int) < (mo.size : Int)) = true := decide_eq_true (by omega)
  clear hL hfit hrf hok
  go_enter Tryz.func5, Tryz.ntmps5
  have hS : Below w.heap.size w w := Below.refl _ _
  go_wp2_with (first | (go_at_call 9; refine (HF.out _ hS).mono ?_; (rintro e w' ⟨rfl, hb'⟩; replace hS := bstep hS hb'; clear hb')) | (go_at_call 17; refine (HR.out _ hS).mono ?_; (rintro e w' ⟨rfl, hb'⟩; replace hS := bstep hS hb'; clear hb')) | (go_at_call 10; refine (sanL _ (HE.out.keep hS)).mono ?_; (rintro e w' ⟨rfl, hb'⟩; replace hS := bstep hS hb'; clear hb')))
  go_ret
  exact ⟨rfl, hS⟩
 have d5 : decide ((300 : Int) < (mo.size : Int)) = false := decide_eq_false (by omega)
 have hm1 := fun (x : RuleM) (hx : x ∈ L) (W : World) (hb : Below w.heap.size w W) => matches_any x ad tg W ((hL.each x hx).keep hb) (hrf.p x hx) (hrf.t x hx) (by omega) (by omega) (HE.out.e.keep hb)
 have hm2 := fun (B : ByteArray) (hBs : B.size ≤ 100000) (x : RuleM) (hx : x ∈ L) (W : World) (hb : Below w.heap.size w W) => matches_any x ad B W ((hL.each x hx).keep hb) (hrf.p x hx) (hrf.t x hx) (by omega) hBs (HE.out.e.keep hb)
 have hc1 := fun (W : World) (hb : Below w.heap.size w W) => choose_any A n c L ad tg W (hL.keep hb) hrf (by omega) (by omega) (HE.out.e.keep hb)
 have hc2 := fun (T : ByteArray) (hT : T.size ≤ 100000) (W : World) (hb : Below w.heap.size w W) => choose_any A n c L ad T W (hL.keep hb) hrf (by omega) hT (HE.out.e.keep hb)
 have hp1 := fun (W : World) (hb : Below w.heap.size w W) => possible_any A n c L ad W (hL.keep hb) hrf (by omega) (HE.out.e.keep hb)
 have htg := fun (x : RuleM) (hx : x ∈ L) (W : World) (hb : Below w.heap.size w W) => tags_any x.T x.r.tags.length x.ct x.r.tags W ((hL.each x hx).tags.keep hb) (by have := (hfit x hx).nt; omega) (fun s hs => by have := (hfit x hx).t s hs; omega)
 have hs1 := fun (W : World) (hb : Below w.heap.size w W) => addrSplit_any tg W (by omega) (HE.out.e.keep hb)
 have hs2 := fun (W : World) (hb : Below w.heap.size w W) => addrSplit_any mo W (by omega) (HE.out.e.keep hb)
 have fch := fun (k : Nat) (x : RuleM) (hx : L[k]? = some x) => choose_first (a := ad) (t := tg) hx
 have fpm := fun (j k : Nat) (h : (possX ad L 0)[j]? = some k) => poss_mem ad L 0 k (List.mem_of_getElem? h)
 have fps := fun (j k k2 : Nat) (h : (possX ad L 0)[j]? = some k) (h2 : (possX ad L 0)[j + 1]? = some k2) => poss_step h h2
 have fcp := choose_poss ad tg L 0
 have ftr := fun (x : RuleM) (hx : x ∈ L) => tags_rule (hok x hx) (by have := (hfit x hx).nt; omega)
 have fmy := fun (k : Nat) (x : RuleM) (T : ByteArray) (hx : L[k]? = some x) (hm : matchB x.r.pat ad = true) (ht : x.r.tags.all (hasTagB T) = true) => choose_may hx hm ht
 have hpl := possX_len ad L 0
 have hlen := hL.len
 change chooseX L ad tg = -1 ∨ ∃ k ∈ possX ad L 0, (k : Int) = chooseX L ad tg at fcp
 have ffd : foundB (chooseX L ad tg) (possX ad L 0) = true := by
  unfold foundB
  rw [Bool.or_eq_true, decide_eq_true_eq, List.any_eq_true]
  rcases fcp with h | ⟨k, hk, e⟩
  ·exact .inl h
  ·exact .inr ⟨k, hk, decide_eq_true e⟩
 clear fcp
 have z1 : ∀ p ∈ (splitR tg).1, p.size ≤ 300 := fun p hp => Nat.le_trans (splitR_size hp) h4
 have z2 : ∀ p ∈ (splitR mo).1, p.size ≤ 300 := fun p hp => Nat.le_trans (splitR_size hp) h5
 have z3 : (splitR tg).1.length ≤ 301 := Nat.le_trans (splitR_num tg) (by omega)
 have z4 : (splitR mo).1.length ≤ 301 := Nat.le_trans (splitR_num mo) (by omega)
 have z5 := tagsR_size ((splitR tg).1 ++ (splitR mo).1)
 have ht2 := fun (A : Option Addr) (n c : Nat) (W : World) (hR : Reads W 1 A n (((splitR tg).1 ++ (splitR mo).1).map .string)) => tags_any A n c ((splitR tg).1 ++ (splitR mo).1) W hR (by rw [List.length_append]; omega) (fun p hp => by have h3 := List.mem_append.1 hp; rcases h3 with h | h; exact Nat.le_trans (z1 p h) (by omega); exact Nat.le_trans (z2 p h) (by omega))
 have fmb := fun (B : ByteArray) (h : tagsR ((splitR tg).1 ++ (splitR mo).1) = (B, 0)) (x : RuleM) (hm : mtX x.r ad tg = true) => mt_both h hm
 generalize splitR tg = q1 at *
 generalize splitR mo = q2 at *
 obtain ⟨p1, e1⟩ := q1
 obtain ⟨p2, e2⟩ := q2
 simp only at z3 z4 z5 ht2 fmb
 unfold tagsV at ht2
 generalize tagsR (p1 ++ p2) = q3 at *
 obtain ⟨B, e3⟩ := q3
 simp only at z5 ht2
 clear z1 z2
 generalize chooseX L ad tg = cv at *
 generalize possX ad L 0 = pv at *
 have HL := Lib.hid hL; have HM1 := Lib.hid hm1; have HM2 := Lib.hid hm2; have HC1 := Lib.hid hc1; have HC2 := Lib.hid hc2; have HP1 := Lib.hid hp1; have HLN := Lib.hid hlen; have HPL := Lib.hid hpl; have HTG := Lib.hid htg; have HS1 := Lib.hid hs1; have HS2 := Lib.hid hs2
 have HT2 := Lib.hid ht2; have FMB := Lib.hid fmb; have Z3 := Lib.hid z3; have Z4 := Lib.hid z4; have Z5 := Lib.hid z5
 have FCH := Lib.hid fch; have FPM := Lib.hid fpm; have FPS := Lib.hid fps; have FTR := Lib.hid ftr; have FMY := Lib.hid fmy; have FFD := Lib.hid ffd; have H4 := Lib.hid h4; have H5 := Lib.hid h5
 clear ht2 fmb z3 z4 z5
 clear hL hm1 hm2 hc1 hc2 hp1 hlen hpl htg hs1 hs2 fch fpm fps ftr fmy ffd hfit hrf hok h3 h4 h5
 go_enter Tryz.func5, Tryz.ntmps5
 have hS : Below w.heap.size w w := Below.refl _ _
 go_upto_region 4 with (first | (go_at_call 9; refine (HF.out _ hS).mono ?_; (rintro e w' ⟨rfl, hb'⟩; replace hS := bstep hS hb'; clear hb')) | (go_at_call 17; refine (HR.out _ hS).mono ?_; (rintro e w' ⟨rfl, hb'⟩; replace hS := bstep hS hb'; clear hb')) | (go_at_call 20; refine (HC1.out _ hS).mono ?_; (rintro e w' ⟨rfl, hb'⟩; replace hS := bstep hS hb'; clear hb')) | (go_at_call 23; refine (HP1.out _ hS).mono ?_; rintro e w' ⟨A1, d1, rfl, hr1, hb'⟩; replace hS := bstep hS hb'; clear hb'))
 clear d3 d4 d5
 have HR1 := Lib.hid hr1
 clear hr1
 go_wp2_with fail
 go_loopw [63] (fun iv wr => ∃ k : Nat, k ≤ n ∧ iv = .int .i64 k ∧ Below w.heap.size w wr ∧ Hid (Reads wr 1 A1 pv.length (i64s pv))) (fun iv _ => n - (intOf iv).toNat)
 case atStart => exact ⟨0, by omega, rfl, hS, HR1⟩
 case round =>
  obtain ⟨k, hk, rfl, hbr, HR2⟩ := hrel
  clear hS HR1
  by_cases hlt : k < n
  ·skip
   obtain ⟨x, hx⟩ : ∃ x, L[k]? = some x := ⟨_, List.getElem?_eq_getElem (by have := HLN.out; omega)⟩
   obtain ⟨_, b, o, rfl, hcell⟩ := (HL.out.keep hbr).at_ hx
   have hld := rule_load wr b (o + k * 18) x hcell
   have hxm := List.mem_of_getElem? hx
   have hv1 := HM1.out x hxm
   have hone : x.cells.toArray.all (·.oneCell') = true := by rw [List.all_toArray]; rfl
   have hsz2 : x.cells.toArray.size = 18 := by rw [List.size_toArray, x.cells_len]
   have hi18 : (Tryz.prog.info? 33).map (·.size) = some x.cells.toArray.size := by rw [hsz2]; exact infRule
   have hsz : x.cells.toArray.size = (#[.string ⟨#[]⟩, .string ⟨#[]⟩, .slice none 0 0, .int .i64 0, .int .i64 0, .int .i64 0, .int .i64 0, .slice none 0 0, .int .i64 0, .int .i64 0, .string ⟨#[]⟩, .slice none 0 0, .slice none 0 0, .slice none 0 0, .int .i64 0, .bool false, .int .i64 0, .string ⟨#[]⟩] : Array Value).size := by rw [hsz2]; rfl
   have hk0 : (0 : Int) ≤ (k : Int) := by omega
   have hk1 : (k : Int) < (n : Int) := by omega
   have hch := FCH.out k x hx
   unfold RuleM.val at hld hv1
   generalize x.cells.toArray = X at *
   generalize mtX x.r ad tg = mv at *
   have HLD := Lib.hid hld; have HV1 := Lib.hid hv1; have HON := Lib.hid hone; have HXS := Lib.hid hsz2; have HI18 := Lib.hid hi18; have HSZ := Lib.hid hsz
   clear hld hv1 hone hsz2 hi18 hsz hcell hx hxm
   cases mv
   ·have hne : ¬ (k : Int) = cv := fun e => by have := hch.2 e; cases this
    have q1 : decide ((k : Int) = cv) = false := decide_eq_false hne
    have q2 : ((k : Int) == cv) = false := by simpa using hne
    clear hch hne
    go_wp2_with (first | (refine wpList_load_addr rfl 33 _ rfl ⟨b, o + k * 18, none⟩ (.agg X) rfl HLD.out ?_) | (refine wpList_store_row rfl 33 _ _ rfl wr.heap.size X rfl rfl _ #[.string ⟨#[]⟩, .string ⟨#[]⟩, .slice none 0 0, .int .i64 0, .int .i64 0, .int .i64 0, .int .i64 0, .slice none 0 0, .int .i64 0, .int .i64 0, .string ⟨#[]⟩, .slice none 0 0, .slice none 0 0, .slice none 0 0, .int .i64 0, .bool false, .int .i64 0, .string ⟨#[]⟩] ((heap_alloc_new wr _).trans rfl) HI18.out HSZ.out.symm HON.out ?_; generalize hw6 : World.setRow _ _ _ = w6; have hB : RuS wr.heap.size X wr w6 := ⟨(by rw [← hw6]; exact setRow_heap _ _ _ _ _ _ (heap_alloc_new wr _)), (by rw [← hw6]; exact below_setRow ((Below.refl _ _).alloc (Nat.le_refl _) _) (Nat.le_refl _) _)⟩; clear hw6) | (refine wpList_load_addr rfl 33 _ rfl ⟨wr.heap.size, 0, none⟩ (.agg X) rfl (hB.x.rule HXS.out) ?_) | (go_at_call 18; refine (HV1.out _ (bstep hbr hB.b)).mono ?_; rintro e w' ⟨rfl, hb'⟩; replace hB := hB.keep hb'; clear hb'))
    exact ⟨⟨k + 1, by omega, by go_num, bstep hbr hB.b, Lib.hid (HR2.out.keep hB.b)⟩, by simp [intOf]; omega⟩
   ·obtain ⟨g1, g2⟩ := hch.1 rfl
    have q3 : decide (cv < 0) = false := decide_eq_false (by omega)
    have q4 : decide ((k : Int) < cv) = false := decide_eq_false (by omega)
    clear hch
    by_cases he : (k : Int) = cv
    ·have q1 : decide ((k : Int) = cv) = true := decide_eq_true he
     have q2 : ((k : Int) == cv) = true := by simpa using he
     clear he g1 g2
     go_wp2_with (first | (refine wpList_load_addr rfl 33 _ rfl ⟨b, o + k * 18, none⟩ (.agg X) rfl HLD.out ?_) | (refine wpList_store_row rfl 33 _ _ rfl wr.heap.size X rfl rfl _ #[.string ⟨#[]⟩, .string ⟨#[]⟩, .slice none 0 0, .int .i64 0, .int .i64 0, .int .i64 0, .int .i64 0, .slice none 0 0, .int .i64 0, .int .i64 0, .string ⟨#[]⟩, .slice none 0 0, .slice none 0 0, .slice none 0 0, .int .i64 0, .bool false, .int .i64 0, .string ⟨#[]⟩] ((heap_alloc_new wr _).trans rfl) HI18.out HSZ.out.symm HON.out ?_; generalize hw6 : World.setRow _ _ _ = w6; have hB : RuS wr.heap.size X wr w6 := ⟨(by rw [← hw6]; exact setRow_heap _ _ _ _ _ _ (heap_alloc_new wr _)), (by rw [← hw6]; exact below_setRow ((Below.refl _ _).alloc (Nat.le_refl _) _) (Nat.le_refl _) _)⟩; clear hw6) | (refine wpList_load_addr rfl 33 _ rfl ⟨wr.heap.size, 0, none⟩ (.agg X) rfl (hB.x.rule HXS.out) ?_) | (go_at_call 18; refine (HV1.out _ (bstep hbr hB.b)).mono ?_; rintro e w' ⟨rfl, hb'⟩; replace hB := hB.keep hb'; clear hb'))
     exact ⟨⟨k + 1, by omega, by go_num, bstep hbr hB.b, Lib.hid (HR2.out.keep hB.b)⟩, by simp [intOf]; omega⟩
    ·have q1 : decide ((k : Int) = cv) = false := decide_eq_false he
     have q2 : ((k : Int) == cv) = false := by simpa using he
     clear he g1 g2
     go_wp2_with (first | (refine wpList_load_addr rfl 33 _ rfl ⟨b, o + k * 18, none⟩ (.agg X) rfl HLD.out ?_) | (refine wpList_store_row rfl 33 _ _ rfl wr.heap.size X rfl rfl _ #[.string ⟨#[]⟩, .string ⟨#[]⟩, .slice none 0 0, .int .i64 0, .int .i64 0, .int .i64 0, .int .i64 0, .slice none 0 0, .int .i64 0, .int .i64 0, .string ⟨#[]⟩, .slice none 0 0, .slice none 0 0, .slice none 0 0, .int .i64 0, .bool false, .int .i64 0, .string ⟨#[]⟩] ((heap_alloc_new wr _).trans rfl) HI18.out HSZ.out.symm HON.out ?_; generalize hw6 : World.setRow _ _ _ = w6; have hB : RuS wr.heap.size X wr w6 := ⟨(by rw [← hw6]; exact setRow_heap _ _ _ _ _ _ (heap_alloc_new wr _)), (by rw [← hw6]; exact below_setRow ((Below.refl _ _).alloc (Nat.le_refl _) _) (Nat.le_refl _) _)⟩; clear hw6) | (refine wpList_load_addr rfl 33 _ rfl ⟨wr.heap.size, 0, none⟩ (.agg X) rfl (hB.x.rule HXS.out) ?_) | (go_at_call 18; refine (HV1.out _ (bstep hbr hB.b)).mono ?_; rintro e w' ⟨rfl, hb'⟩; replace hB := hB.keep hb'; clear hb'))
     exact ⟨⟨k + 1, by omega, by go_num, bstep hbr hB.b, Lib.hid (HR2.out.keep hB.b)⟩, by simp [intOf]; omega⟩
  ·go_wp2_with fail
   obtain ⟨wo, rfl⟩ : ∃ wo : World, wo = wr := ⟨_, rfl⟩
   go_loopw [11, 94] (fun fv iv wr => ∃ j : Nat, j ≤ pv.length ∧ iv = .int .i64 j ∧ fv = .bool (foundB cv (pv.take j)) ∧ Below w.heap.size w wr ∧ Hid (Reads wr 1 A1 pv.length (i64s pv))) (fun _ iv _ => pv.length - (intOf iv).toNat)
   case atStart => exact ⟨0, Nat.zero_le _, rfl, congrArg Value.bool (by rw [Bool.eq_iff_iff]; simp [foundB]), hbr, HR2⟩
   case round =>
    obtain ⟨j, hj, rfl, rfl, hbs, HR3⟩ := hrel
    clear hbr HR2
    by_cases hlt : j < pv.length
    ·skip
     obtain ⟨k, hpk⟩ : ∃ k, pv[j]? = some k := ⟨_, List.getElem?_eq_getElem hlt⟩
     obtain ⟨i1, x, ek, hx, hmb⟩ := FPM.out j k hpk
     obtain rfl : k = i1 := by omega
     have hxm := List.mem_of_getElem? hx
     have hkn : k < n := by
      have := (List.getElem?_eq_some_iff.1 hx).1
      have := HLN.out
      omega
     obtain ⟨T, eT, hT1, hT2⟩ := FTR.out x hxm
     have hmay := FMY.out k x T hx hmb hT2
     have htx := HTG.out x hxm
     unfold tagsV at htx
     rw [eT] at htx
     have hcT := HC2.out T (by omega)
     generalize chooseX L ad T = c2 at *
     have HTX := Lib.hid htx; have HCT := Lib.hid hcT
     have hst := found_step cv hpk
     obtain ⟨_, b, o, rfl, hcell⟩ := (HL.out.keep hbs).at_ hx
     have y1 : wr.cell? ⟨b, o + k * 18 + 2, none⟩ = some (.slice x.T x.r.tags.length x.ct) := hcell 2 _ rfl
     obtain ⟨b1, o1, rfl, hcp⟩ := HR3.out.2 (by omega)
     have y2 : wr.cell? ⟨b1, o1 + j, none⟩ = some (.int .i64 (k : Int)) := hcp j _ (by simp [i64s, hpk])
     have hj0 : (0 : Int) ≤ (j : Int) := by omega
     have hj1 : (j : Int) < (pv.length : Int) := by omega
     have hj9 : wrap64 ((j : Int) + 1) = (j : Int) + 1 := IntWalk.wrap64_in _ (by have := HPL.out; have := HLN.out; omega)
     have hk0 : (0 : Int) ≤ (k : Int) := by omega
     have hk1 : (k : Int) < (n : Int) := by omega
     have t1 : decide ((k : Int) < 0) = false := decide_eq_false (by omega)
     have t2 : decide ((n : Int) ≤ (k : Int)) = false := decide_eq_false (by omega)
     have t12 : decide (n ≤ k) = false := decide_eq_false (by omega)
     have t3 : decide (c2 < 0) = false := decide_eq_false (by omega)
     have t4 : decide ((k : Int) < c2) = false := decide_eq_false (by omega)
     have hS := hbs
     have hT : Below wr.heap.size wr wr := Below.refl _ _
     generalize foundB cv (pv.take j) = fb at *
     have hst2 : foundB cv (pv.take (j + 1)) = (fb || decide ((k : Int) = cv)) := hst
     clear hst htx hcT hmay eT hT1 hT2 hcell hmb hx hxm ek hkn
     by_cases hj : j = 0
     ·have t5 : decide ((0 : Int) < (j : Int)) = false := decide_eq_false (by omega)
      have t11 : decide (0 < j) = false := decide_eq_false (by omega)
      clear hcp hj hpk
      cases fb
      ·by_cases he : (k : Int) = cv
       ·have q1 : decide ((k : Int) = cv) = true := decide_eq_true he
        have q2 : ((k : Int) == cv) = true := by simpa using he
        rw [q1] at hst2
        clear he
        have HST := Lib.hid hst2
        clear hst2
        have HJ9 := Lib.hid hj9
        clear hj9
        go_upto_region 18 with fail
        (try clear t6 t7 t8 t9 t10 t13 hj2 hj3 y3)
        clear t1 t2 t5 t11 t12 y2
        go_upto_region 20 with (first | (go_at_call 25; refine (HTX.out _ hS).mono ?_; rintro e w' ⟨rfl, hb'⟩; replace hS := bstep hS hb'; replace hT := bstep hT hb'; clear hb') | (go_at_call 20; refine (HCT.out _ hS).mono ?_; rintro e w' ⟨rfl, hb'⟩; replace hS := bstep hS hb'; replace hT := bstep hT hb'; clear hb'))
        clear y1
        go_wp2_with fail
        rw [HJ9.out]
        exact ⟨⟨j + 1, by omega, by go_num, (by first | (rw [HST.out]; done) | (rw [HST.out]; rfl)), hS, Lib.hid (HR3.out.keep hT)⟩, meas_succ _ _ hlt⟩
       ·have q1 : decide ((k : Int) = cv) = false := decide_eq_false he
        have q2 : ((k : Int) == cv) = false := by simpa using he
        rw [q1] at hst2
        clear he
        have HST := Lib.hid hst2
        clear hst2
        have HJ9 := Lib.hid hj9
        clear hj9
        go_upto_region 18 with fail
        (try clear t6 t7 t8 t9 t10 t13 hj2 hj3 y3)
        clear t1 t2 t5 t11 t12 y2
        go_upto_region 20 with (first | (go_at_call 25; refine (HTX.out _ hS).mono ?_; rintro e w' ⟨rfl, hb'⟩; replace hS := bstep hS hb'; replace hT := bstep hT hb'; clear hb') | (go_at_call 20; refine (HCT.out _ hS).mono ?_; rintro e w' ⟨rfl, hb'⟩; replace hS := bstep hS hb'; replace hT := bstep hT hb'; clear hb'))
        clear y1
        go_wp2_with fail
        rw [HJ9.out]
        exact ⟨⟨j + 1, by omega, by go_num, (by first | (rw [HST.out]; done) | (rw [HST.out]; rfl)), hS, Lib.hid (HR3.out.keep hT)⟩, meas_succ _ _ hlt⟩
      ·rw [Bool.true_or] at hst2
       have HST := Lib.hid hst2
       clear hst2
       have HJ9 := Lib.hid hj9
       clear hj9
       go_upto_region 18 with fail
       (try clear t6 t7 t8 t9 t10 t13 hj2 hj3 y3)
       clear t1 t2 t5 t11 t12 y2
       go_upto_region 20 with (first | (go_at_call 25; refine (HTX.out _ hS).mono ?_; rintro e w' ⟨rfl, hb'⟩; replace hS := bstep hS hb'; replace hT := bstep hT hb'; clear hb') | (go_at_call 20; refine (HCT.out _ hS).mono ?_; rintro e w' ⟨rfl, hb'⟩; replace hS := bstep hS hb'; replace hT := bstep hT hb'; clear hb'))
       clear y1
       go_wp2_with fail
       rw [HJ9.out]
       exact ⟨⟨j + 1, by omega, by go_num, (by first | (rw [HST.out]; done) | (rw [HST.out]; rfl)), hS, Lib.hid (HR3.out.keep hT)⟩, meas_succ _ _ hlt⟩
     ·obtain ⟨j0, hj00⟩ : ∃ j0, j = j0 + 1 := ⟨j - 1, by omega⟩
      obtain ⟨k0, hpk0⟩ : ∃ k0, pv[j0]? = some k0 := ⟨_, List.getElem?_eq_getElem (by omega)⟩
      have hlt0 := FPS.out j0 k0 k hpk0 (by rw [← hj00]; exact hpk)
      have y3 : wr.cell? ⟨b1, o1 + j0, none⟩ = some (.int .i64 (k0 : Int)) := hcp j0 _ (by simp [i64s, hpk0])
      have t5 : decide ((0 : Int) < (j : Int)) = true := decide_eq_true (by omega)
      have t6 : wrap64 ((j : Int) - 1) = ((j0 : Nat) : Int) := by rw [show ((j : Int) - 1) = ((j0 : Nat) : Int) by omega]; exact IntWalk.wrap64_in _ (by have := HPL.out; have := HLN.out; omega)
      have t9 : (j : Int) - 1 = ((j0 : Nat) : Int) := by omega
      have t10 : wrap64 ((j0 : Nat) : Int) = ((j0 : Nat) : Int) := IntWalk.wrap64_in _ (by have := HPL.out; have := HLN.out; omega)
      have t11 : decide (0 < j) = true := decide_eq_true (by omega)
      have t13 : decide (k ≤ k0) = false := decide_eq_false (by omega)
      have t7 : decide ((k : Int) ≤ (k0 : Int)) = false := decide_eq_false (by omega)
      have t8 : decide ((k0 : Int) < (k : Int)) = true := decide_eq_true (by omega)
      have hj2 : (0 : Int) ≤ (j0 : Int) := by omega
      have hj3 : (j0 : Int) < (pv.length : Int) := by omega
      clear hcp hj hpk hpk0 hlt0 hj00
      cases fb
      ·by_cases he : (k : Int) = cv
       ·have q1 : decide ((k : Int) = cv) = true := decide_eq_true he
        have q2 : ((k : Int) == cv) = true := by simpa using he
        rw [q1] at hst2
        clear he
        have HST := Lib.hid hst2
        clear hst2
        have HJ9 := Lib.hid hj9
        clear hj9
        go_upto_region 18 with fail
        (try clear t6 t7 t8 t9 t10 t13 hj2 hj3 y3)
        clear t1 t2 t5 t11 t12 y2
        go_upto_region 20 with (first | (go_at_call 25; refine (HTX.out _ hS).mono ?_; rintro e w' ⟨rfl, hb'⟩; replace hS := bstep hS hb'; replace hT := bstep hT hb'; clear hb') | (go_at_call 20; refine (HCT.out _ hS).mono ?_; rintro e w' ⟨rfl, hb'⟩; replace hS := bstep hS hb'; replace hT := bstep hT hb'; clear hb'))
        clear y1
        go_wp2_with fail
        rw [HJ9.out]
        exact ⟨⟨j + 1, by omega, by go_num, (by first | (rw [HST.out]; done) | (rw [HST.out]; rfl)), hS, Lib.hid (HR3.out.keep hT)⟩, meas_succ _ _ hlt⟩
       ·have q1 : decide ((k : Int) = cv) = false := decide_eq_false he
        have q2 : ((k : Int) == cv) = false := by simpa using he
        rw [q1] at hst2
        clear he
        have HST := Lib.hid hst2
        clear hst2
        have HJ9 := Lib.hid hj9
        clear hj9
        go_upto_region 18 with fail
        (try clear t6 t7 t8 t9 t10 t13 hj2 hj3 y3)
        clear t1 t2 t5 t11 t12 y2
        go_upto_region 20 with (first | (go_at_call 25; refine (HTX.out _ hS).mono ?_; rintro e w' ⟨rfl, hb'⟩; replace hS := bstep hS hb'; replace hT := bstep hT hb'; clear hb') | (go_at_call 20; refine (HCT.out _ hS).mono ?_; rintro e w' ⟨rfl, hb'⟩; replace hS := bstep hS hb'; replace hT := bstep hT hb'; clear hb'))
        clear y1
        go_wp2_with fail
        rw [HJ9.out]
        exact ⟨⟨j + 1, by omega, by go_num, (by first | (rw [HST.out]; done) | (rw [HST.out]; rfl)), hS, Lib.hid (HR3.out.keep hT)⟩, meas_succ _ _ hlt⟩
      ·rw [Bool.true_or] at hst2
       have HST := Lib.hid hst2
       clear hst2
       have HJ9 := Lib.hid hj9
       clear hj9
       go_upto_region 18 with fail
       (try clear t6 t7 t8 t9 t10 t13 hj2 hj3 y3)
       clear t1 t2 t5 t11 t12 y2
       go_upto_region 20 with (first | (go_at_call 25; refine (HTX.out _ hS).mono ?_; rintro e w' ⟨rfl, hb'⟩; replace hS := bstep hS hb'; replace hT := bstep hT hb'; clear hb') | (go_at_call 20; refine (HCT.out _ hS).mono ?_; rintro e w' ⟨rfl, hb'⟩; replace hS := bstep hS hb'; replace hT := bstep hT hb'; clear hb'))
       clear y1
       go_wp2_with fail
       rw [HJ9.out]
       exact ⟨⟨j + 1, by omega, by go_num, (by first | (rw [HST.out]; done) | (rw [HST.out]; rfl)), hS, Lib.hid (HR3.out.keep hT)⟩, meas_succ _ _ hlt⟩
    ·skip
     have ej : pv.take j = pv := List.take_of_length_le (by omega)
     simp only [ej, FFD.out]
     have hS := hbs
     clear ej hbs HR3
     go_upto_region 25 with (first | (go_at_call 26; refine (HS1.out _ hS).mono ?_; rintro e w1 ⟨hb1, A2, c2, rfl, hr2⟩; replace hS := bstep hS hb1; clear HS1 hb1) | (go_at_call 26; refine (HS2.out _ hS).mono ?_; rintro e w2 ⟨hb2, A3, c3, rfl, hr3⟩; replace hS := bstep hS hb2; replace hr2 := Reads.keep hr2 hb2; clear HS2 hb2))
     have hown0 : (w2.alloc (.cells #[] 9)).ownsRow w2.heap.size 9 1 (.slice (some ⟨w2.heap.size, 0, none⟩) 0 0) 0 [] := World.ownsRow_lit w2 #[] 0 (Nat.le_refl _) (by unfold maxLen; omega) rfl
     have hba : Below w2.heap.size w2 (w2.alloc (.cells #[] 9)) := (Below.refl _ _).alloc (Nat.le_refl _) _
     have ra := Reads.keep hr2 hba
     have HO0 := Lib.hid hown0; have HBA := Lib.hid hba; have RA := Lib.hid ra; have R3 := Lib.hid hr3
     clear hown0 hba ra hr2 hr3
     go_upto_region 26 with (first
      | (refine wpList_buildSlice_as rfl _ _ _ rfl #[] rfl _ _ (run_bs0 _) ?_)
      | (at_builtin; refine wpList_append_reads _ rfl _ _ 27 rfl w2.heap.size 9 i0 (.string ⟨#[]⟩) 16 Tryz.underlying27 HI.out.1 HI.out.2.1 HI.out.2.2.1 HI.out.2.2.2 rfl _ _ _ rfl HO0.out A2 p1.length c2 (p1.map .string) rfl RA.out (strs_oneF _) (by have := Z3.out; unfold maxLen; omega) (by have := Z3.out; omega) (by simp) ?_; intro v3 w3 hown3 hg3; have hb3 : Below w2.heap.size w2 w3 := HBA.out.grown hg3 (by simp) (fun r e => by have e2 : w2.heap.size = r := Option.some.inj e; omega); have HO3 := Lib.hid hown3; have HB3 := Lib.hid hb3; clear hown3 hg3 hb3 HO0)
      | (at_builtin; refine wpList_append_reads _ rfl _ _ 27 rfl w2.heap.size 9 i0 (.string ⟨#[]⟩) 16 Tryz.underlying27 HI.out.1 HI.out.2.1 HI.out.2.2.1 HI.out.2.2.2 rfl _ _ _ rfl HO3.out A3 p2.length c3 (p2.map .string) rfl (R3.out.keep HB3.out) (strs_oneF _) (by have := Z3.out; have := Z4.out; unfold maxLen; omega) (by have := Z3.out; have := Z4.out; omega) HB3.out.size ?_; intro v4 w4 hown4 hg4; have hb4 : Below w2.heap.size w2 w4 := HB3.out.grown hg4 HB3.out.size (fun r e => ((HO3.out).lt r e).1); rw [Nat.zero_add, List.nil_append] at hown4; obtain ⟨A5, c5, rfl, hr5⟩ := own_reads hown4; have hS4 := bstep hS hb4; have R5 := Lib.hid (show Reads w4 1 A5 (p1.length + p2.length) ((p1 ++ p2).map .string) by rw [List.map_append]; exact hr5); clear hown4 hg4 hb4 hr5)
      | (go_at_call 25; refine (HT2.out _ _ _ _ R5.out).mono ?_; rintro e w5 ⟨rfl, hb5⟩; have hS5 := bstep hS4 hb5; clear hb5))
     have hS := hS5
     have FMB2 := Lib.hid (fun (h : e3 = 0) (x : RuleM) (hm : mtX x.r ad tg = true) => FMB.out B (by rw [h]) x hm)
     clear HBA RA R3 HO3 HB3 R5 hS4 hS5 FMB HT2
     by_cases E1 : e1 = 0
     rotate_left
     ·have u1 : decide (e1 = 0) = false := decide_eq_false E1
      have u2 : (e1 == 0) = false := by simpa using E1
      have u3 : (e1 != 0) = true := by simpa using E1
      clear E1
      go_wp2_with (first | (go_at_call 10; refine (sanL _ (HE.out.keep hS)).mono ?_; (rintro e w' ⟨rfl, hb'⟩; replace hS := bstep hS hb'; clear hb')))
      go_ret
      exact ⟨rfl, hS⟩
     by_cases E2 : e2 = 0
     rotate_left
     ·subst E1
      have u1 : decide (e2 = 0) = false := decide_eq_false E2
      have u2 : (e2 == 0) = false := by simpa using E2
      have u3 : (e2 != 0) = true := by simpa using E2
      clear E2
      go_wp2_with (first | (go_at_call 10; refine (sanL _ (HE.out.keep hS)).mono ?_; (rintro e w' ⟨rfl, hb'⟩; replace hS := bstep hS hb'; clear hb')))
      go_ret
      exact ⟨rfl, hS⟩
     by_cases E3 : e3 = 0
     rotate_left
     ·subst E1
      subst E2
      have u1 : decide (e3 = 0) = false := decide_eq_false E3
      have u2 : (e3 == 0) = false := by simpa using E3
      have u3 : (e3 != 0) = true := by simpa using E3
      clear E3
      go_wp2_with (first | (go_at_call 10; refine (sanL _ (HE.out.keep hS)).mono ?_; (rintro e w' ⟨rfl, hb'⟩; replace hS := bstep hS hb'; clear hb')))
      go_ret
      exact ⟨rfl, hS⟩
     have FMB3 := Lib.hid (FMB2.out E3)
     subst E1
     subst E2
     subst E3
     clear FMB2
     go_wp2_with fail
     clear hlt
     go_loopw [186] (fun iv wr => ∃ k : Nat, k ≤ n ∧ iv = .int .i64 k ∧ Below w.heap.size w wr) (fun iv _ => n - (intOf iv).toNat)
     case atStart => exact ⟨0, by omega, rfl, hS⟩
     case round =>
      obtain ⟨k, hk, rfl, hbr⟩ := hrel
      clear hS
      by_cases hlt : k < n
      ·skip
       obtain ⟨x, hx⟩ : ∃ x, L[k]? = some x := ⟨_, List.getElem?_eq_getElem (by have := HLN.out; omega)⟩
       obtain ⟨_, b, o, rfl, hcell⟩ := (HL.out.keep hbr).at_ hx
       have hld := rule_load wr b (o + k * 18) x hcell
       have hxm := List.mem_of_getElem? hx
       have hv1 := HM1.out x hxm
       have hone : x.cells.toArray.all (·.oneCell') = true := by rw [List.all_toArray]; rfl
       have hsz2 : x.cells.toArray.size = 18 := by rw [List.size_toArray, x.cells_len]
       have hi18 : (Tryz.prog.info? 33).map (·.size) = some x.cells.toArray.size := by rw [hsz2]; exact infRule
       have hsz : x.cells.toArray.size = (#[.string ⟨#[]⟩, .string ⟨#[]⟩, .slice none 0 0, .int .i64 0, .int .i64 0, .int .i64 0, .int .i64 0, .slice none 0 0, .int .i64 0, .int .i64 0, .string ⟨#[]⟩, .slice none 0 0, .slice none 0 0, .slice none 0 0, .int .i64 0, .bool false, .int .i64 0, .string ⟨#[]⟩] : Array Value).size := by rw [hsz2]; rfl
       have hk0 : (0 : Int) ≤ (k : Int) := by omega
       have hk1 : (k : Int) < (n : Int) := by omega
       have hv2 := HM2.out B (by have := Z5.out; omega) x hxm
       have hmt := FMB3.out x
       unfold RuleM.val at hld hv1 hv2
       generalize x.cells.toArray = X at *
       generalize mtX x.r ad tg = mv at *
       generalize mtX x.r ad B = mv2 at *
       have HLD := Lib.hid hld; have HV1 := Lib.hid hv1; have HON := Lib.hid hone; have HXS := Lib.hid hsz2; have HI18 := Lib.hid hi18; have HSZ := Lib.hid hsz
       clear hld hv1 hone hsz2 hi18 hsz hcell hx hxm
       cases mv
       ·clear hmt hv2
        go_wp2_with (first | (refine wpList_load_addr rfl 33 _ rfl ⟨b, o + k * 18, none⟩ (.agg X) rfl HLD.out ?_) | (refine wpList_store_row rfl 33 _ _ rfl wr.heap.size X rfl rfl _ #[.string ⟨#[]⟩, .string ⟨#[]⟩, .slice none 0 0, .int .i64 0, .int .i64 0, .int .i64 0, .int .i64 0, .slice none 0 0, .int .i64 0, .int .i64 0, .string ⟨#[]⟩, .slice none 0 0, .slice none 0 0, .slice none 0 0, .int .i64 0, .bool false, .int .i64 0, .string ⟨#[]⟩] ((heap_alloc_new wr _).trans rfl) HI18.out HSZ.out.symm HON.out ?_; generalize hw6 : World.setRow _ _ _ = w6; have hB : RuS wr.heap.size X wr w6 := ⟨(by rw [← hw6]; exact setRow_heap _ _ _ _ _ _ (heap_alloc_new wr _)), (by rw [← hw6]; exact below_setRow ((Below.refl _ _).alloc (Nat.le_refl _) _) (Nat.le_refl _) _)⟩; clear hw6) | (refine wpList_load_addr rfl 33 _ rfl ⟨wr.heap.size, 0, none⟩ (.agg X) rfl (hB.x.rule HXS.out) ?_) | (go_at_call 18; refine (HV1.out _ (bstep hbr hB.b)).mono ?_; rintro e w' ⟨rfl, hb'⟩; replace hB := hB.keep hb'; clear hb'))
        exact ⟨⟨k + 1, by omega, by go_num, bstep hbr hB.b⟩, by simp [intOf]; omega⟩
       ·rw [hmt rfl] at hv2
        have HV2 := Lib.hid hv2
        clear hmt hv2
        go_wp2_with (first | (refine wpList_load_addr rfl 33 _ rfl ⟨b, o + k * 18, none⟩ (.agg X) rfl HLD.out ?_) | (refine wpList_store_row rfl 33 _ _ rfl wr.heap.size X rfl rfl _ #[.string ⟨#[]⟩, .string ⟨#[]⟩, .slice none 0 0, .int .i64 0, .int .i64 0, .int .i64 0, .int .i64 0, .slice none 0 0, .int .i64 0, .int .i64 0, .string ⟨#[]⟩, .slice none 0 0, .slice none 0 0, .slice none 0 0, .int .i64 0, .bool false, .int .i64 0, .string ⟨#[]⟩] ((heap_alloc_new wr _).trans rfl) HI18.out HSZ.out.symm HON.out ?_; generalize hw6 : World.setRow _ _ _ = w6; have hB : RuS wr.heap.size X wr w6 := ⟨(by rw [← hw6]; exact setRow_heap _ _ _ _ _ _ (heap_alloc_new wr _)), (by rw [← hw6]; exact below_setRow ((Below.refl _ _).alloc (Nat.le_refl _) _) (Nat.le_refl _) _)⟩; clear hw6) | (refine wpList_load_addr rfl 33 _ rfl ⟨wr.heap.size, 0, none⟩ (.agg X) rfl (hB.x.rule HXS.out) ?_) | (go_big_want; refine wp_load_addr 33 _ rfl ⟨wr.heap.size, 0, none⟩ (.agg X) rfl (hB.x.rule HXS.out) ?_; simp only [Act.put, List.setIfInBounds_toArray, List.set_cons_succ, List.set_cons_zero]) | (go_at_call 18; (first | (with_reducible refine (HV1.out _ (bstep hbr hB.b)).mono ?_) | (with_reducible refine (HV2.out _ (bstep hbr hB.b)).mono ?_)); rintro e w' ⟨rfl, hb'⟩; replace hB := hB.keep hb'; clear hb'))
        exact ⟨⟨k + 1, by omega, by go_num, bstep hbr hB.b⟩, by simp [intOf]; omega⟩
      ·have hS := hbr
       clear hbr
       go_wp2_with (first | (go_at_call 10; refine (sanL _ (HE.out.keep hS)).mono ?_; (rintro e w' ⟨rfl, hb'⟩; replace hS := bstep hS hb'; clear hb')))
       go_ret
       exact ⟨rfl, hS⟩
end Go.Proofs.YtdlbfjoemabfpaaGreatDoor
namespace Go.Proofs.YtdlbfjoemabfpaaGreatDoor
open Go.RowKit Go.Sort
set_option linter.unusedVariables false
set_option linter.unusedSimpArgs false
set_option maxRecDepth 100000
section
variable {H : Type} {enc : TypeId × Value → H} {W : World} {base : Nat} {sp : Nat → Bool} {hd : Bool}
theorem slice_bound {t e : TypeId} (ht : Tryz.prog.underlying t = some (.slice e)) {A : Option Addr} {n c : Nat} {fuel : Nat} {x : DataW H × List MemPlace} (h : DataW.trod enc Tryz.prog W base sp hd fuel t [.slice A n c] = some x) : n ≤ 9223372036854775807 := by
 rcases Go.Deep.open_slice ht h with ⟨h0, _⟩ | ⟨a, len, cap, m, k, D, Pl, hcs, _, hl, hm, _⟩
 ·injection h0 with h0
  injection h0 with h1 h2 h3
  omega
 ·injection hcs with hcs
  injection hcs with h1 h2 h3
  unfold maxLen at hm
  omega
theorem open_rules {r : Reach} {b0 : Nat} {v : Value} {d : DataW H} {ps : List MemPlace} (hval : Value.okWide Tryz.prog W r b0 22 v) (h : DataW.Trod enc Tryz.prog W base sp hd 22 v d ps) :
  ∃ (A : Option Addr) (n c : Nat) (L : List RuleM), v = .slice A n c ∧ RulesRead W A n L ∧ n ≤ 9223372036854775807 := by
 obtain ⟨fuel, hf⟩ := h
 obtain ⟨A, n, c, rfl⟩ := Go.WideShapes.okWide_slice Tryz.underlying22 hval
 have hf2 : DataW.trod enc Tryz.prog W base sp hd fuel 22 [.slice A n c] = some (d, ps) := by simpa [Value.cells] using hf
 obtain ⟨A', n', c', L, he, hl, hr, hx⟩ := rows_reads (v := .slice A n c) (by decide) Tryz.underlying22 cellsRu RuleM.cells (RuleReads W) (fun a => a.cells_len) (fun f cs x hl h => rule_row hl h) hf2
 injection he with e1 e2 e3
 subst e1; subst e2; subst e3
 exact ⟨A, n, c, L, rfl, ⟨hl, hr, hx⟩, slice_bound Tryz.underlying22 hf2⟩
end
end Go.Proofs.YtdlbfjoemabfpaaGreatDoor
