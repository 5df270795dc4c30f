/- PolicyKeepsAges: the law returns true for every rule, stamp, two periods, state and instant. -/
import Derived.Test.YtdlbfjoemabfpaaGreatDoorEKY0
import Derived.Test.YtdlbfjoemabfpaaGreatDoorEQZ39
namespace Go.Proofs.YtdlbfjoemabfpaaGreatDoor
open Go.RowKit Go.Sort
set_option linter.unusedVariables false
set_option linter.unusedSimpArgs false
set_option maxRecDepth 100000
theorem young_iff (r : RuleV) (status lo hi state : Int) : youngR r status lo hi state = true ↔ hi ≤ lo + maxAgeR r status state := by
 unfold youngR
 rw [decide_eq_true_eq]
 omega
theorem young_until {r : RuleV} {status lo hi state : Int} (hh : hi ≤ 1099511627776) : decide (hi ≤ untilR r status lo state) = youngR r status lo hi state := by
 unfold youngR untilR
 rw [decide_eq_decide]
 omega
theorem young_later {r : RuleV} {status lo hi lo' hi' state : Int} (h : youngR r status lo hi state = true) (h1 : hi' ≤ hi) (h2 : lo ≤ lo') : youngR r status lo' hi' state = true := by
 rw [young_iff] at h ⊢
 omega
theorem young_states {r : RuleV} (hok : RuleOk r) {status lo hi : Int} (h : youngR r status lo hi 0 = true) (state : Int) : youngR r status lo hi state = true := by
 rw [young_iff] at h ⊢
 have := maxAge_more hok status state
 omega
structure Uses (yo : Bool) (f : Int → Bool) : Prop where
 yes : ∀ p, f p = true → yo = true
 two : f 2 = false
 zero : f 0 = yo
theorem uses_is (r : RuleV) (status lo hi state : Int) : Uses (youngR r status lo hi state) (usableR r status lo hi state) :=
 ⟨fun p h => by unfold usableR at h; simp only [Bool.and_eq_true] at h; exact h.2, by unfold usableR; simp, by unfold usableR; simp⟩
set_option maxHeartbeats 16000000 in
theorem lawKe (x : RuleM) (s : StampV) (lo hi lo2 hi2 n t : Int) (w : World) (hR : RuleReads w x) (ht : -9223372036854775808 ≤ t ∧ t ≤ 9223372036854775807) (hL : LEnv w) : Calls Tryz.prog 6 #[x.val, s.val, perV lo hi, perV lo2 hi2, .int .i64 n, .int .i64 t] w (Ret w (.bool true)) := by
 have hfw := fun W (hb : Below w.heap.size w W) => rFew22_any x W (hR.keep hb)
 have hvl := fun (h : fewR x.r = true) W (hb : Below w.heap.size w W) => rValid22_any x W (hR.keep hb) (fewR_fits h)
 have hsh := fun W => rShortStamp_any s W
 have hpa := fun W => rPeriod22_any s.lo s.hi W
 have hpb := fun W => rPeriod22_any lo hi W
 have hpc := fun W => rPeriod22_any lo2 hi2 W
 have hst := fun W => rState22 n W
 have hma := fun (hok : RuleOk x.r) (hs : n = 0 ∨ n = 1 ∨ n = 2) W => maxAge_any x hok s.status n hs W
 have hyo := fun (hok : RuleOk x.r) (h : 0 ≤ s.lo ∧ s.lo ≤ 1099511627776) (hs : n = 0 ∨ n = 1 ∨ n = 2) W => young_any x hok s lo hi n h.1 h.2 hs W
 have hyt := fun (hok : RuleOk x.r) (h : 0 ≤ s.lo ∧ s.lo ≤ 1099511627776) (hs : n = 0 ∨ n = 1 ∨ n = 2) W => young_any x hok s lo2 hi2 n h.1 h.2 hs W
 have hys := fun (hok : RuleOk x.r) (h : 0 ≤ s.lo ∧ s.lo ≤ 1099511627776) (m : Int) (hs : m = 0 ∨ m = 1 ∨ m = 2) W => young_any x hok s lo hi m h.1 h.2 hs W
 have hyl := fun (hok : RuleOk x.r) (u : Int) (h : 0 ≤ u ∧ u ≤ 1099511627776) (hs : n = 0 ∨ n = 1 ∨ n = 2) W => young_any x hok { s with lo := u } lo hi n h.1 h.2 hs W
 have hun := fun (hok : RuleOk x.r) (h : 0 ≤ s.lo ∧ s.lo ≤ 1099511627776) (hs : n = 0 ∨ n = 1 ∨ n = 2) W => until_any x hok s n h.1 h.2 hs W
 have hus := fun (hok : RuleOk x.r) (h : 0 ≤ s.lo ∧ s.lo ≤ 1099511627776) (hs : n = 0 ∨ n = 1 ∨ n = 2) (p : Int) W => usable_any x hok s lo hi n p h.1 h.2 hs W
 obtain ⟨X, hX⟩ : ∃ X, X = x.cells.toArray := ⟨_, rfl⟩
 obtain ⟨Y, hY⟩ : ∃ Y, Y = s.cells.toArray := ⟨_, rfl⟩
 obtain ⟨Z, hZ⟩ : ∃ Z : Array Value, Z = #[.int .i64 lo, .int .i64 hi] := ⟨_, rfl⟩
 obtain ⟨U, hU⟩ : ∃ U : Array Value, U = #[.int .i64 lo2, .int .i64 hi2] := ⟨_, rfl⟩
 obtain ⟨Y2, hYY⟩ : ∃ Y, Y = ({ s with lo := t } : StampV).cells.toArray := ⟨_, rfl⟩
 have hXs : X.size = 18 := by rw [hX]; rfl
 have hYs : Y.size = 41 := by rw [hY]; rfl
 have hZs : Z.size = 2 := by rw [hZ]; rfl
 have hUs : U.size = 2 := by rw [hU]; rfl
 have hYYs : Y2.size = 41 := by rw [hYY]; rfl
 have eX : x.val = .agg X := by rw [hX]; rfl
 have eY : s.val = .agg Y := by rw [hY]; rfl
 have eZ : perV lo hi = .agg Z := by rw [hZ]; rfl
 have eU : perV lo2 hi2 = .agg U := by rw [hU]; rfl
 have eL : ({ s with lo := t } : StampV).val = .agg Y2 := by rw [hYY]; rfl
 have hY2 : Y[2]? = some (.int .i64 s.status) := by rw [hY]; rfl
 have hY21 : Y[21]? = some (.int .i64 s.lo) := by rw [hY]; rfl
 have hY22 : Y[22]? = some (.int .i64 s.hi) := by rw [hY]; rfl
 have hZ1 : Z[1]? = some (.int .i64 hi) := by rw [hZ]; rfl
 have hU1 : U[1]? = some (.int .i64 hi2) := by rw [hU]; rfl
 have hset : Y.setIfInBounds 21 (.int .i64 t) = Y2 := by rw [hY, hYY]; rfl
 have hone : Y.all (·.oneCell') = true := by rw [hY, List.all_toArray]; rfl
 have hinf : (Tryz.prog.info? 56).map (·.size) = some Y.size := by rw [hYs]; exact infStamp
 have hzs : stampZ.size = Y.size := by rw [hYs]; rfl
 have hyl2 := fun (hok : RuleOk x.r) (h : 0 ≤ t ∧ t ≤ 1099511627776) (hs : n = 0 ∨ n = 1 ∨ n = 2) W => hyl hok t h hs W
 simp only [eX, eY, eZ, eU, eL] at hfw hvl hsh hpb hpc hma hyo hyt hys hyl2 hun hus ⊢
 have fyt : ∀ (h : youngR x.r s.status s.lo hi n = true) (h2 : hi2 ≤ hi), youngR x.r s.status s.lo hi2 n = true := fun h h2 => young_later h h2 (Int.le_refl _)
 have fys : ∀ (hok : RuleOk x.r) (h : youngR x.r s.status s.lo hi n = true) (h0 : n = 0) (m : Int), youngR x.r s.status s.lo hi m = true := fun hok h h0 m => young_states hok (by rw [← h0]; exact h) m
 have fyl : ∀ (h : youngR x.r s.status s.lo hi n = true) (h2 : s.lo ≤ t), youngR x.r s.status t hi n = true := fun h h2 => young_later h (Int.le_refl _) h2
 have fun_ : ∀ (h : hi ≤ 1099511627776), decide (hi ≤ untilR x.r s.status s.lo n) = youngR x.r s.status s.lo hi n := fun h => young_until h
 have fus := uses_is x.r s.status s.lo hi n
 have fma : youngR x.r s.status s.lo hi n = true → hi - maxAgeR x.r s.status n ≤ s.lo := fun h => by rw [young_iff] at h; omega
 have fmb := fun (hok : RuleOk x.r) => maxAge_bounds hok s.status n
 generalize maxAgeR x.r s.status n = ma at *
 generalize untilR x.r s.status s.lo n = un at *
 generalize usableR x.r s.status s.lo hi n = us at *
 generalize youngR x.r s.status s.lo hi2 n = yt at *
 generalize youngR x.r s.status t hi n = yl at *
 have HYF := Lib.hid fyt; have HYSF := Lib.hid fys; have HYL := Lib.hid fyl; have HUF := Lib.hid fun_; have HUSF := Lib.hid fus; have HMF := Lib.hid fma; have HMB := Lib.hid fmb
 clear fyt fys fyl fun_ fus fma fmb
 have HL := Lib.hid hL; have HF := Lib.hid hfw; have HSH := Lib.hid hsh; have HPA := Lib.hid hpa; have HPB := Lib.hid hpb; have HPC := Lib.hid hpc; have HST := Lib.hid hst
 have HXS := Lib.hid hXs; have HYS := Lib.hid hYs; have HZS := Lib.hid hZs; have HUS := Lib.hid hUs; have HLS := Lib.hid hYYs; have HY2 := Lib.hid hY2; have HY21 := Lib.hid hY21; have HY22 := Lib.hid hY22; have HZ1 := Lib.hid hZ1; have HU1 := Lib.hid hU1; have HSET := Lib.hid hset; have HONE := Lib.hid hone; have HINF := Lib.hid hinf; have HZSZ := Lib.hid hzs
 have KMA := Lib.hid hma; have KYO := Lib.hid hyo; have KYT := Lib.hid hyt; have KYS := Lib.hid hys; have KYL := Lib.hid hyl2; have KUN := Lib.hid hun; have KUS := Lib.hid hus; have HVL := Lib.hid hvl; have HT := Lib.hid ht
 clear hL hfw hsh hpa hpb hpc hst hXs hYs hZs hUs hYYs hY2 hY21 hY22 hZ1 hU1 hset hone hinf hzs hma hyo hyt hys hyl hyl2 hun hus hX hY hZ hU hYY eX eY eZ eU eL hvl hR ht
 cases h1 : fewR x.r
 ·rw [h1] at HF
  clear h1
  go_enter Tryz.func6, Tryz.ntmps6
  go_upto_region 1 with fail
  generalize hw0 : World.alloc _ _ = w0
  have hS : Box4 w X Y Z U w0 := by
   rw [← hw0]
   obtain ⟨b1, b2, b3, b4⟩ := alloc4_heap w (.cells X 33) (.cells Y 56) (.cells Z 53) (.cells U 53)
   exact ⟨b1, b2, b3, b4, belB⟩
  clear hw0
  go_wp2_with (first | (refine wpList_load_addr rfl 33 _ rfl ⟨w.heap.size, 0, none⟩ (.agg X) rfl (hS.x.rule HXS.out) ?_) | (refine wpList_load_addr rfl 56 _ rfl ⟨w.heap.size + 1, 0, none⟩ (.agg Y) rfl (hS.y.stamp HYS.out) ?_) | (refine wpList_load_addr rfl 53 _ rfl ⟨w.heap.size + 2, 0, none⟩ (.agg Z) rfl (hS.z.period HZS.out) ?_) | (go_big_want; first | (refine wp_load_addr 33 _ rfl ⟨w.heap.size, 0, none⟩ (.agg X) rfl (hS.x.rule HXS.out) ?_; simp only [Act.put, List.setIfInBounds_toArray, List.set_cons_succ, List.set_cons_zero]) | (refine wp_load_addr 56 _ rfl ⟨w.heap.size + 1, 0, none⟩ (.agg Y) rfl (hS.y.stamp HYS.out) ?_; simp only [Act.put, List.setIfInBounds_toArray, List.set_cons_succ, List.set_cons_zero]) | (refine wp_load_addr 53 _ rfl ⟨w.heap.size + 1, 21, none⟩ _ rfl (hS.y.at_ HY21.out HY22.out) ?_; simp only [Act.put, List.setIfInBounds_toArray, List.set_cons_succ, List.set_cons_zero]) | (refine wp_load_addr 53 _ rfl ⟨w.heap.size + 2, 0, none⟩ (.agg Z) rfl (hS.z.period HZS.out) ?_; simp only [Act.put, List.setIfInBounds_toArray, List.set_cons_succ, List.set_cons_zero]) | (refine wp_load_addr 53 _ rfl ⟨w.heap.size + 3, 0, none⟩ (.agg U) rfl (hS.u.period HUS.out) ?_; simp only [Act.put, List.setIfInBounds_toArray, List.set_cons_succ, List.set_cons_zero])) | (go_at_call 27; refine (HF.out _ hS.b).mono ?_; (rintro e w' ⟨rfl, hb'⟩; replace hS := hS.keep hb'; clear hb')) | (go_at_call 12; refine (HV.out _ hS.b).mono ?_; (rintro e w' ⟨rfl, hb'⟩; replace hS := hS.keep hb'; clear hb')) | (go_at_call 28; refine (HSH.out _).mono ?_; (rintro e w' ⟨rfl, hb'⟩; replace hS := hS.keep hb'; clear hb')) | (go_at_call 29; (first | (with_reducible refine (HPA.out _).mono ?_) | (with_reducible refine (HPB.out _).mono ?_) | (with_reducible refine (HPC.out _).mono ?_)); (rintro e w' ⟨rfl, hb'⟩; replace hS := hS.keep hb'; clear hb')) | (go_at_call 30; refine (HST.out _).mono ?_; (rintro e w' ⟨rfl, hb'⟩; replace hS := hS.keep hb'; clear hb')) | (go_at_call 10; refine (sanL _ (HL.out.keep hS.b)).mono ?_; (rintro e w' ⟨rfl, hb'⟩; replace hS := hS.keep hb'; clear hb')))
  go_ret
  exact ⟨rfl, hS.b⟩
 rw [h1] at HF
 have HV := Lib.hid (HVL.out h1)
 clear HVL h1
 cases h2 : validR x.r
 ·rw [h2] at HV
  clear h2
  go_enter Tryz.func6, Tryz.ntmps6
  go_upto_region 1 with fail
  generalize hw0 : World.alloc _ _ = w0
  have hS : Box4 w X Y Z U w0 := by
   rw [← hw0]
   obtain ⟨b1, b2, b3, b4⟩ := alloc4_heap w (.cells X 33) (.cells Y 56) (.cells Z 53) (.cells U 53)
   exact ⟨b1, b2, b3, b4, belB⟩
  clear hw0
  go_wp2_with (first | (refine wpList_load_addr rfl 33 _ rfl ⟨w.heap.size, 0, none⟩ (.agg X) rfl (hS.x.rule HXS.out) ?_) | (refine wpList_load_addr rfl 56 _ rfl ⟨w.heap.size + 1, 0, none⟩ (.agg Y) rfl (hS.y.stamp HYS.out) ?_) | (refine wpList_load_addr rfl 53 _ rfl ⟨w.heap.size + 2, 0, none⟩ (.agg Z) rfl (hS.z.period HZS.out) ?_) | (go_big_want; first | (refine wp_load_addr 33 _ rfl ⟨w.heap.size, 0, none⟩ (.agg X) rfl (hS.x.rule HXS.out) ?_; simp only [Act.put, List.setIfInBounds_toArray, List.set_cons_succ, List.set_cons_zero]) | (refine wp_load_addr 56 _ rfl ⟨w.heap.size + 1, 0, none⟩ (.agg Y) rfl (hS.y.stamp HYS.out) ?_; simp only [Act.put, List.setIfInBounds_toArray, List.set_cons_succ, List.set_cons_zero]) | (refine wp_load_addr 53 _ rfl ⟨w.heap.size + 1, 21, none⟩ _ rfl (hS.y.at_ HY21.out HY22.out) ?_; simp only [Act.put, List.setIfInBounds_toArray, List.set_cons_succ, List.set_cons_zero]) | (refine wp_load_addr 53 _ rfl ⟨w.heap.size + 2, 0, none⟩ (.agg Z) rfl (hS.z.period HZS.out) ?_; simp only [Act.put, List.setIfInBounds_toArray, List.set_cons_succ, List.set_cons_zero]) | (refine wp_load_addr 53 _ rfl ⟨w.heap.size + 3, 0, none⟩ (.agg U) rfl (hS.u.period HUS.out) ?_; simp only [Act.put, List.setIfInBounds_toArray, List.set_cons_succ, List.set_cons_zero])) | (go_at_call 27; refine (HF.out _ hS.b).mono ?_; (rintro e w' ⟨rfl, hb'⟩; replace hS := hS.keep hb'; clear hb')) | (go_at_call 12; refine (HV.out _ hS.b).mono ?_; (rintro e w' ⟨rfl, hb'⟩; replace hS := hS.keep hb'; clear hb')) | (go_at_call 28; refine (HSH.out _).mono ?_; (rintro e w' ⟨rfl, hb'⟩; replace hS := hS.keep hb'; clear hb')) | (go_at_call 29; (first | (with_reducible refine (HPA.out _).mono ?_) | (with_reducible refine (HPB.out _).mono ?_) | (with_reducible refine (HPC.out _).mono ?_)); (rintro e w' ⟨rfl, hb'⟩; replace hS := hS.keep hb'; clear hb')) | (go_at_call 30; refine (HST.out _).mono ?_; (rintro e w' ⟨rfl, hb'⟩; replace hS := hS.keep hb'; clear hb')) | (go_at_call 10; refine (sanL _ (HL.out.keep hS.b)).mono ?_; (rintro e w' ⟨rfl, hb'⟩; replace hS := hS.keep hb'; clear hb')))
  go_ret
  exact ⟨rfl, hS.b⟩
 rw [h2] at HV
 have hok := rule_ok h2
 clear h2
 cases h3 : shortR s
 ·rw [h3] at HSH
  clear h3 hok
  go_enter Tryz.func6, Tryz.ntmps6
  go_upto_region 1 with fail
  generalize hw0 : World.alloc _ _ = w0
  have hS : Box4 w X Y Z U w0 := by
   rw [← hw0]
   obtain ⟨b1, b2, b3, b4⟩ := alloc4_heap w (.cells X 33) (.cells Y 56) (.cells Z 53) (.cells U 53)
   exact ⟨b1, b2, b3, b4, belB⟩
  clear hw0
  go_wp2_with (first | (refine wpList_load_addr rfl 33 _ rfl ⟨w.heap.size, 0, none⟩ (.agg X) rfl (hS.x.rule HXS.out) ?_) | (refine wpList_load_addr rfl 56 _ rfl ⟨w.heap.size + 1, 0, none⟩ (.agg Y) rfl (hS.y.stamp HYS.out) ?_) | (refine wpList_load_addr rfl 53 _ rfl ⟨w.heap.size + 2, 0, none⟩ (.agg Z) rfl (hS.z.period HZS.out) ?_) | (go_big_want; first | (refine wp_load_addr 33 _ rfl ⟨w.heap.size, 0, none⟩ (.agg X) rfl (hS.x.rule HXS.out) ?_; simp only [Act.put, List.setIfInBounds_toArray, List.set_cons_succ, List.set_cons_zero]) | (refine wp_load_addr 56 _ rfl ⟨w.heap.size + 1, 0, none⟩ (.agg Y) rfl (hS.y.stamp HYS.out) ?_; simp only [Act.put, List.setIfInBounds_toArray, List.set_cons_succ, List.set_cons_zero]) | (refine wp_load_addr 53 _ rfl ⟨w.heap.size + 1, 21, none⟩ _ rfl (hS.y.at_ HY21.out HY22.out) ?_; simp only [Act.put, List.setIfInBounds_toArray, List.set_cons_succ, List.set_cons_zero]) | (refine wp_load_addr 53 _ rfl ⟨w.heap.size + 2, 0, none⟩ (.agg Z) rfl (hS.z.period HZS.out) ?_; simp only [Act.put, List.setIfInBounds_toArray, List.set_cons_succ, List.set_cons_zero]) | (refine wp_load_addr 53 _ rfl ⟨w.heap.size + 3, 0, none⟩ (.agg U) rfl (hS.u.period HUS.out) ?_; simp only [Act.put, List.setIfInBounds_toArray, List.set_cons_succ, List.set_cons_zero])) | (go_at_call 27; refine (HF.out _ hS.b).mono ?_; (rintro e w' ⟨rfl, hb'⟩; replace hS := hS.keep hb'; clear hb')) | (go_at_call 12; refine (HV.out _ hS.b).mono ?_; (rintro e w' ⟨rfl, hb'⟩; replace hS := hS.keep hb'; clear hb')) | (go_at_call 28; refine (HSH.out _).mono ?_; (rintro e w' ⟨rfl, hb'⟩; replace hS := hS.keep hb'; clear hb')) | (go_at_call 29; (first | (with_reducible refine (HPA.out _).mono ?_) | (with_reducible refine (HPB.out _).mono ?_) | (with_reducible refine (HPC.out _).mono ?_)); (rintro e w' ⟨rfl, hb'⟩; replace hS := hS.keep hb'; clear hb')) | (go_at_call 30; refine (HST.out _).mono ?_; (rintro e w' ⟨rfl, hb'⟩; replace hS := hS.keep hb'; clear hb')) | (go_at_call 10; refine (sanL _ (HL.out.keep hS.b)).mono ?_; (rintro e w' ⟨rfl, hb'⟩; replace hS := hS.keep hb'; clear hb')))
  go_ret
  exact ⟨rfl, hS.b⟩
 rw [h3] at HSH
 clear h3
 cases h4 : periodB s.lo s.hi
 ·rw [h4] at HPA
  clear h4 hok
  go_enter Tryz.func6, Tryz.ntmps6
  go_upto_region 1 with fail
  generalize hw0 : World.alloc _ _ = w0
  have hS : Box4 w X Y Z U w0 := by
   rw [← hw0]
   obtain ⟨b1, b2, b3, b4⟩ := alloc4_heap w (.cells X 33) (.cells Y 56) (.cells Z 53) (.cells U 53)
   exact ⟨b1, b2, b3, b4, belB⟩
  clear hw0
  go_wp2_with (first | (refine wpList_load_addr rfl 33 _ rfl ⟨w.heap.size, 0, none⟩ (.agg X) rfl (hS.x.rule HXS.out) ?_) | (refine wpList_load_addr rfl 56 _ rfl ⟨w.heap.size + 1, 0, none⟩ (.agg Y) rfl (hS.y.stamp HYS.out) ?_) | (refine wpList_load_addr rfl 53 _ rfl ⟨w.heap.size + 2, 0, none⟩ (.agg Z) rfl (hS.z.period HZS.out) ?_) | (go_big_want; first | (refine wp_load_addr 33 _ rfl ⟨w.heap.size, 0, none⟩ (.agg X) rfl (hS.x.rule HXS.out) ?_; simp only [Act.put, List.setIfInBounds_toArray, List.set_cons_succ, List.set_cons_zero]) | (refine wp_load_addr 56 _ rfl ⟨w.heap.size + 1, 0, none⟩ (.agg Y) rfl (hS.y.stamp HYS.out) ?_; simp only [Act.put, List.setIfInBounds_toArray, List.set_cons_succ, List.set_cons_zero]) | (refine wp_load_addr 53 _ rfl ⟨w.heap.size + 1, 21, none⟩ _ rfl (hS.y.at_ HY21.out HY22.out) ?_; simp only [Act.put, List.setIfInBounds_toArray, List.set_cons_succ, List.set_cons_zero]) | (refine wp_load_addr 53 _ rfl ⟨w.heap.size + 2, 0, none⟩ (.agg Z) rfl (hS.z.period HZS.out) ?_; simp only [Act.put, List.setIfInBounds_toArray, List.set_cons_succ, List.set_cons_zero]) | (refine wp_load_addr 53 _ rfl ⟨w.heap.size + 3, 0, none⟩ (.agg U) rfl (hS.u.period HUS.out) ?_; simp only [Act.put, List.setIfInBounds_toArray, List.set_cons_succ, List.set_cons_zero])) | (go_at_call 27; refine (HF.out _ hS.b).mono ?_; (rintro e w' ⟨rfl, hb'⟩; replace hS := hS.keep hb'; clear hb')) | (go_at_call 12; refine (HV.out _ hS.b).mono ?_; (rintro e w' ⟨rfl, hb'⟩; replace hS := hS.keep hb'; clear hb')) | (go_at_call 28; refine (HSH.out _).mono ?_; (rintro e w' ⟨rfl, hb'⟩; replace hS := hS.keep hb'; clear hb')) | (go_at_call 29; (first | (with_reducible refine (HPA.out _).mono ?_) | (with_reducible refine (HPB.out _).mono ?_) | (with_reducible refine (HPC.out _).mono ?_)); (rintro e w' ⟨rfl, hb'⟩; replace hS := hS.keep hb'; clear hb')) | (go_at_call 30; refine (HST.out _).mono ?_; (rintro e w' ⟨rfl, hb'⟩; replace hS := hS.keep hb'; clear hb')) | (go_at_call 10; refine (sanL _ (HL.out.keep hS.b)).mono ?_; (rintro e w' ⟨rfl, hb'⟩; replace hS := hS.keep hb'; clear hb')))
  go_ret
  exact ⟨rfl, hS.b⟩
 rw [h4] at HPA
 have p4 := period_ok h4
 clear h4
 cases h5 : periodB lo hi
 ·rw [h5] at HPB
  clear h5 hok p4
  go_enter Tryz.func6, Tryz.ntmps6
  go_upto_region 1 with fail
  generalize hw0 : World.alloc _ _ = w0
  have hS : Box4 w X Y Z U w0 := by
   rw [← hw0]
   obtain ⟨b1, b2, b3, b4⟩ := alloc4_heap w (.cells X 33) (.cells Y 56) (.cells Z 53) (.cells U 53)
   exact ⟨b1, b2, b3, b4, belB⟩
  clear hw0
  go_wp2_with (first | (refine wpList_load_addr rfl 33 _ rfl ⟨w.heap.size, 0, none⟩ (.agg X) rfl (hS.x.rule HXS.out) ?_) | (refine wpList_load_addr rfl 56 _ rfl ⟨w.heap.size + 1, 0, none⟩ (.agg Y) rfl (hS.y.stamp HYS.out) ?_) | (refine wpList_load_addr rfl 53 _ rfl ⟨w.heap.size + 2, 0, none⟩ (.agg Z) rfl (hS.z.period HZS.out) ?_) | (go_big_want; first | (refine wp_load_addr 33 _ rfl ⟨w.heap.size, 0, none⟩ (.agg X) rfl (hS.x.rule HXS.out) ?_; simp only [Act.put, List.setIfInBounds_toArray, List.set_cons_succ, List.set_cons_zero]) | (refine wp_load_addr 56 _ rfl ⟨w.heap.size + 1, 0, none⟩ (.agg Y) rfl (hS.y.stamp HYS.out) ?_; simp only [Act.put, List.setIfInBounds_toArray, List.set_cons_succ, List.set_cons_zero]) | (refine wp_load_addr 53 _ rfl ⟨w.heap.size + 1, 21, none⟩ _ rfl (hS.y.at_ HY21.out HY22.out) ?_; simp only [Act.put, List.setIfInBounds_toArray, List.set_cons_succ, List.set_cons_zero]) | (refine wp_load_addr 53 _ rfl ⟨w.heap.size + 2, 0, none⟩ (.agg Z) rfl (hS.z.period HZS.out) ?_; simp only [Act.put, List.setIfInBounds_toArray, List.set_cons_succ, List.set_cons_zero]) | (refine wp_load_addr 53 _ rfl ⟨w.heap.size + 3, 0, none⟩ (.agg U) rfl (hS.u.period HUS.out) ?_; simp only [Act.put, List.setIfInBounds_toArray, List.set_cons_succ, List.set_cons_zero])) | (go_at_call 27; refine (HF.out _ hS.b).mono ?_; (rintro e w' ⟨rfl, hb'⟩; replace hS := hS.keep hb'; clear hb')) | (go_at_call 12; refine (HV.out _ hS.b).mono ?_; (rintro e w' ⟨rfl, hb'⟩; replace hS := hS.keep hb'; clear hb')) | (go_at_call 28; refine (HSH.out _).mono ?_; (rintro e w' ⟨rfl, hb'⟩; replace hS := hS.keep hb'; clear hb')) | (go_at_call 29; (first | (with_reducible refine (HPA.out _).mono ?_) | (with_reducible refine (HPB.out _).mono ?_) | (with_reducible refine (HPC.out _).mono ?_)); (rintro e w' ⟨rfl, hb'⟩; replace hS := hS.keep hb'; clear hb')) | (go_at_call 30; refine (HST.out _).mono ?_; (rintro e w' ⟨rfl, hb'⟩; replace hS := hS.keep hb'; clear hb')) | (go_at_call 10; refine (sanL _ (HL.out.keep hS.b)).mono ?_; (rintro e w' ⟨rfl, hb'⟩; replace hS := hS.keep hb'; clear hb')))
  go_ret
  exact ⟨rfl, hS.b⟩
 rw [h5] at HPB
 have p5 := period_ok h5
 clear h5
 cases h6 : periodB lo2 hi2
 ·rw [h6] at HPC
  clear h6 hok p4 p5
  go_enter Tryz.func6, Tryz.ntmps6
  go_upto_region 1 with fail
  generalize hw0 : World.alloc _ _ = w0
  have hS : Box4 w X Y Z U w0 := by
   rw [← hw0]
   obtain ⟨b1, b2, b3, b4⟩ := alloc4_heap w (.cells X 33) (.cells Y 56) (.cells Z 53) (.cells U 53)
   exact ⟨b1, b2, b3, b4, belB⟩
  clear hw0
  go_wp2_with (first | (refine wpList_load_addr rfl 33 _ rfl ⟨w.heap.size, 0, none⟩ (.agg X) rfl (hS.x.rule HXS.out) ?_) | (refine wpList_load_addr rfl 56 _ rfl ⟨w.heap.size + 1, 0, none⟩ (.agg Y) rfl (hS.y.stamp HYS.out) ?_) | (refine wpList_load_addr rfl 53 _ rfl ⟨w.heap.size + 2, 0, none⟩ (.agg Z) rfl (hS.z.period HZS.out) ?_) | (go_big_want; first | (refine wp_load_addr 33 _ rfl ⟨w.heap.size, 0, none⟩ (.agg X) rfl (hS.x.rule HXS.out) ?_; simp only [Act.put, List.setIfInBounds_toArray, List.set_cons_succ, List.set_cons_zero]) | (refine wp_load_addr 56 _ rfl ⟨w.heap.size + 1, 0, none⟩ (.agg Y) rfl (hS.y.stamp HYS.out) ?_; simp only [Act.put, List.setIfInBounds_toArray, List.set_cons_succ, List.set_cons_zero]) | (refine wp_load_addr 53 _ rfl ⟨w.heap.size + 1, 21, none⟩ _ rfl (hS.y.at_ HY21.out HY22.out) ?_; simp only [Act.put, List.setIfInBounds_toArray, List.set_cons_succ, List.set_cons_zero]) | (refine wp_load_addr 53 _ rfl ⟨w.heap.size + 2, 0, none⟩ (.agg Z) rfl (hS.z.period HZS.out) ?_; simp only [Act.put, List.setIfInBounds_toArray, List.set_cons_succ, List.set_cons_zero]) | (refine wp_load_addr 53 _ rfl ⟨w.heap.size + 3, 0, none⟩ (.agg U) rfl (hS.u.period HUS.out) ?_; simp only [Act.put, List.setIfInBounds_toArray, List.set_cons_succ, List.set_cons_zero])) | (go_at_call 27; refine (HF.out _ hS.b).mono ?_; (rintro e w' ⟨rfl, hb'⟩; replace hS := hS.keep hb'; clear hb')) | (go_at_call 12; refine (HV.out _ hS.b).mono ?_; (rintro e w' ⟨rfl, hb'⟩; replace hS := hS.keep hb'; clear hb')) | (go_at_call 28; refine (HSH.out _).mono ?_; (rintro e w' ⟨rfl, hb'⟩; replace hS := hS.keep hb'; clear hb')) | (go_at_call 29; (first | (with_reducible refine (HPA.out _).mono ?_) | (with_reducible refine (HPB.out _).mono ?_) | (with_reducible refine (HPC.out _).mono ?_)); (rintro e w' ⟨rfl, hb'⟩; replace hS := hS.keep hb'; clear hb')) | (go_at_call 30; refine (HST.out _).mono ?_; (rintro e w' ⟨rfl, hb'⟩; replace hS := hS.keep hb'; clear hb')) | (go_at_call 10; refine (sanL _ (HL.out.keep hS.b)).mono ?_; (rintro e w' ⟨rfl, hb'⟩; replace hS := hS.keep hb'; clear hb')))
  go_ret
  exact ⟨rfl, hS.b⟩
 rw [h6] at HPC
 have p6 := period_ok h6
 clear h6
 cases h7 : stateB n
 ·rw [h7] at HST
  clear h7 hok p4 p5 p6
  go_enter Tryz.func6, Tryz.ntmps6
  go_upto_region 1 with fail
  generalize hw0 : World.alloc _ _ = w0
  have hS : Box4 w X Y Z U w0 := by
   rw [← hw0]
   obtain ⟨b1, b2, b3, b4⟩ := alloc4_heap w (.cells X 33) (.cells Y 56) (.cells Z 53) (.cells U 53)
   exact ⟨b1, b2, b3, b4, belB⟩
  clear hw0
  go_wp2_with (first | (refine wpList_load_addr rfl 33 _ rfl ⟨w.heap.size, 0, none⟩ (.agg X) rfl (hS.x.rule HXS.out) ?_) | (refine wpList_load_addr rfl 56 _ rfl ⟨w.heap.size + 1, 0, none⟩ (.agg Y) rfl (hS.y.stamp HYS.out) ?_) | (refine wpList_load_addr rfl 53 _ rfl ⟨w.heap.size + 2, 0, none⟩ (.agg Z) rfl (hS.z.period HZS.out) ?_) | (go_big_want; first | (refine wp_load_addr 33 _ rfl ⟨w.heap.size, 0, none⟩ (.agg X) rfl (hS.x.rule HXS.out) ?_; simp only [Act.put, List.setIfInBounds_toArray, List.set_cons_succ, List.set_cons_zero]) | (refine wp_load_addr 56 _ rfl ⟨w.heap.size + 1, 0, none⟩ (.agg Y) rfl (hS.y.stamp HYS.out) ?_; simp only [Act.put, List.setIfInBounds_toArray, List.set_cons_succ, List.set_cons_zero]) | (refine wp_load_addr 53 _ rfl ⟨w.heap.size + 1, 21, none⟩ _ rfl (hS.y.at_ HY21.out HY22.out) ?_; simp only [Act.put, List.setIfInBounds_toArray, List.set_cons_succ, List.set_cons_zero]) | (refine wp_load_addr 53 _ rfl ⟨w.heap.size + 2, 0, none⟩ (.agg Z) rfl (hS.z.period HZS.out) ?_; simp only [Act.put, List.setIfInBounds_toArray, List.set_cons_succ, List.set_cons_zero]) | (refine wp_load_addr 53 _ rfl ⟨w.heap.size + 3, 0, none⟩ (.agg U) rfl (hS.u.period HUS.out) ?_; simp only [Act.put, List.setIfInBounds_toArray, List.set_cons_succ, List.set_cons_zero])) | (go_at_call 27; refine (HF.out _ hS.b).mono ?_; (rintro e w' ⟨rfl, hb'⟩; replace hS := hS.keep hb'; clear hb')) | (go_at_call 12; refine (HV.out _ hS.b).mono ?_; (rintro e w' ⟨rfl, hb'⟩; replace hS := hS.keep hb'; clear hb')) | (go_at_call 28; refine (HSH.out _).mono ?_; (rintro e w' ⟨rfl, hb'⟩; replace hS := hS.keep hb'; clear hb')) | (go_at_call 29; (first | (with_reducible refine (HPA.out _).mono ?_) | (with_reducible refine (HPB.out _).mono ?_) | (with_reducible refine (HPC.out _).mono ?_)); (rintro e w' ⟨rfl, hb'⟩; replace hS := hS.keep hb'; clear hb')) | (go_at_call 30; refine (HST.out _).mono ?_; (rintro e w' ⟨rfl, hb'⟩; replace hS := hS.keep hb'; clear hb')) | (go_at_call 10; refine (sanL _ (HL.out.keep hS.b)).mono ?_; (rintro e w' ⟨rfl, hb'⟩; replace hS := hS.keep hb'; clear hb')))
  go_ret
  exact ⟨rfl, hS.b⟩
 rw [h7] at HST
 have p7 := state_three h7
 clear h7
 have q4 : 0 ≤ s.lo ∧ s.lo ≤ 1099511627776 := ⟨p4.1, p4.2.1⟩
 have k1 := KMA.out hok p7; have k2 := KYO.out hok q4 p7; have k3 := KYT.out hok q4 p7; have k4 := KUN.out hok q4 p7; have k5 := KUS.out hok q4 p7
 have M1 := Lib.hid k1; have M2 := Lib.hid k2; have M3 := Lib.hid k3; have M4 := Lib.hid k4; have M5 := Lib.hid k5
 have mb := HMB.out hok
 have MYS := Lib.hid (fun (h : youngR x.r s.status s.lo hi n = true) (h0 : n = 0) (m : Int) (hm : m = 0 ∨ m = 1 ∨ m = 2) W => by have := KYS.out hok q4 m hm W; rw [HYSF.out hok h h0 m] at this; exact this)
 have MYL := Lib.hid (fun (h : 0 ≤ t ∧ t ≤ 1099511627776) W => KYL.out hok h p7 W)
 have uf := HUF.out p5.2.2.2.1
 clear k1 k2 k3 k4 k5 KMA KYO KYT KUN KUS KYS KYL HYSF HMB HUF hok
 generalize youngR x.r s.status s.lo hi n = yo at *
 generalize s.status = st at *
 cases yo
 ·clear HYF HYL HMF MYS MYL p4 p6 p7 mb q4
  have HUA : ∀ p, us p = false := fun p => by
   cases h : us p
   ·rfl
   ·exact absurd (HUSF.out.yes p h) (by simp)
  have M6 := Lib.hid (fun p W => by have := M5.out p W; rw [HUA p] at this; exact this)
  clear HUA M5 HUSF p5
  have uf2 : decide (un < hi) = true := by
   rw [decide_eq_false_iff_not] at uf
   exact decide_eq_true (by omega)
  go_enter Tryz.func6, Tryz.ntmps6
  go_upto_region 1 with fail
  generalize hw0 : World.alloc _ _ = w0
  have hS : Box4 w X Y Z U w0 := by
   rw [← hw0]
   obtain ⟨b1, b2, b3, b4⟩ := alloc4_heap w (.cells X 33) (.cells Y 56) (.cells Z 53) (.cells U 53)
   exact ⟨b1, b2, b3, b4, belB⟩
  clear hw0
  go_upto_region 4 with (first | (refine wpList_load_addr rfl 33 _ rfl ⟨w.heap.size, 0, none⟩ (.agg X) rfl (hS.x.rule HXS.out) ?_) | (refine wpList_load_addr rfl 56 _ rfl ⟨w.heap.size + 1, 0, none⟩ (.agg Y) rfl (hS.y.stamp HYS.out) ?_) | (refine wpList_load_addr rfl 53 _ rfl ⟨w.heap.size + 2, 0, none⟩ (.agg Z) rfl (hS.z.period HZS.out) ?_) | (go_big_want; first | (refine wp_load_addr 33 _ rfl ⟨w.heap.size, 0, none⟩ (.agg X) rfl (hS.x.rule HXS.out) ?_; simp only [Act.put, List.setIfInBounds_toArray, List.set_cons_succ, List.set_cons_zero]) | (refine wp_load_addr 56 _ rfl ⟨w.heap.size + 1, 0, none⟩ (.agg Y) rfl (hS.y.stamp HYS.out) ?_; simp only [Act.put, List.setIfInBounds_toArray, List.set_cons_succ, List.set_cons_zero]) | (refine wp_load_addr 53 _ rfl ⟨w.heap.size + 1, 21, none⟩ _ rfl (hS.y.at_ HY21.out HY22.out) ?_; simp only [Act.put, List.setIfInBounds_toArray, List.set_cons_succ, List.set_cons_zero]) | (refine wp_load_addr 53 _ rfl ⟨w.heap.size + 2, 0, none⟩ (.agg Z) rfl (hS.z.period HZS.out) ?_; simp only [Act.put, List.setIfInBounds_toArray, List.set_cons_succ, List.set_cons_zero]) | (refine wp_load_addr 53 _ rfl ⟨w.heap.size + 3, 0, none⟩ (.agg U) rfl (hS.u.period HUS.out) ?_; simp only [Act.put, List.setIfInBounds_toArray, List.set_cons_succ, List.set_cons_zero])) | (go_at_call 27; refine (HF.out _ hS.b).mono ?_; (rintro e w' ⟨rfl, hb'⟩; replace hS := hS.keep hb'; clear hb')) | (go_at_call 12; refine (HV.out _ hS.b).mono ?_; (rintro e w' ⟨rfl, hb'⟩; replace hS := hS.keep hb'; clear hb')) | (go_at_call 28; refine (HSH.out _).mono ?_; (rintro e w' ⟨rfl, hb'⟩; replace hS := hS.keep hb'; clear hb')) | (go_at_call 29; (first | (with_reducible refine (HPA.out _).mono ?_) | (with_reducible refine (HPB.out _).mono ?_) | (with_reducible refine (HPC.out _).mono ?_)); (rintro e w' ⟨rfl, hb'⟩; replace hS := hS.keep hb'; clear hb')) | (go_at_call 30; refine (HST.out _).mono ?_; (rintro e w' ⟨rfl, hb'⟩; replace hS := hS.keep hb'; clear hb')) | (go_at_call 10; refine (sanL _ (HL.out.keep hS.b)).mono ?_; (rintro e w' ⟨rfl, hb'⟩; replace hS := hS.keep hb'; clear hb')) | (go_at_call 31; refine (M2.out _).mono ?_; (rintro e w' ⟨rfl, hb'⟩; replace hS := hS.keep hb'; clear hb')))
  have HS := Lib.hid hS
  clear hS
  refine wp_det 16 (by kernel_rfl) (by kernel_rfl) (by kernel_rfl) (fun i => [.bool false, .pointer (some ⟨w.heap.size + 2, 1, none⟩), .int .i64 hi, .agg X, .agg Y, .int .i64 n, .int .i64 un, .bool false, .bool false, .bool false, undef, undef, undef, undef, undef, .bool false].getD i undef) (Box4 w X Y Z U) (HS.out.keep (Below.drew (Below.refl _ _))) (fun _ _ h hb => h.keep hb) ?_ ?_
  ·simp only [putL, List.take_succ_cons, List.take_zero, List.drop_succ_cons, List.drop_zero, Act.put, List.setIfInBounds_toArray, List.set_cons_succ, List.set_cons_zero, List.getD_cons_zero, List.getD_cons_succ]
   refine ⟨fun W hS => ?_, fun W hS => ?_, fun W hS => ?_, fun W hS => ?_, fun W hS => ?_, fun W hS => ?_, fun W hS => ?_, fun W hS => ?_, fun W hS => ?_, fun W hS => ?_, fun W hS => ?_, fun W hS => ?_, fun W hS => ?_, fun W hS => ?_, fun W hS => ?_, fun W hS => ?_, trivial⟩
   all_goals
    have hbw := hS.b
    have z1 := hS.z.cell HZ1.out
    go_wp2_with (first | (refine wpList_load_addr rfl 33 _ rfl ⟨w.heap.size, 0, none⟩ (.agg X) rfl (hS.x.rule HXS.out) ?_) | (refine wpList_load_addr rfl 56 _ rfl ⟨w.heap.size + 1, 0, none⟩ (.agg Y) rfl (hS.y.stamp HYS.out) ?_) | (go_at_call 32; refine (M4.out _).mono ?_; rintro e w2 ⟨rfl, hb2⟩))
    exact ⟨rfl, rfl, belB⟩
  intro w9 hS9
  clear uf uf2
  simp only [putL, List.take_succ_cons, List.take_zero, List.drop_succ_cons, List.drop_zero, Act.put, List.setIfInBounds_toArray, List.set_cons_succ, List.set_cons_zero, List.getD_cons_zero, List.getD_cons_succ]
  go_wp2_with fail
  go_loopw [75] (fun iv wr => ∃ k : Nat, k ≤ 3 ∧ iv = .int .i64 k ∧ Hid (Box4 w X Y Z U wr)) (fun iv _ => 3 - (intOf iv).toNat)
  case atStart => exact ⟨0, by omega, rfl, Lib.hid hS9⟩
  case round =>
   obtain ⟨k, hk, rfl, HB⟩ := hrel
   clear hS9
   by_cases hlt : k < 3
   ·have hS := HB.out
    have d1 : decide ((k : Int) < 3) = true := decide_eq_true (by omega)
    have hk0 : (0 : Int) ≤ (k : Int) := by omega
    have hk1 : (k : Int) < 3 := by omega
    go_wp2_with (first | (refine wpList_load_addr rfl 33 _ rfl ⟨w.heap.size, 0, none⟩ (.agg X) rfl (hS.x.rule HXS.out) ?_) | (refine wpList_load_addr rfl 56 _ rfl ⟨w.heap.size + 1, 0, none⟩ (.agg Y) rfl (hS.y.stamp HYS.out) ?_) | (refine wpList_load_addr rfl 53 _ rfl ⟨w.heap.size + 2, 0, none⟩ (.agg Z) rfl (hS.z.period HZS.out) ?_) | (go_at_call 33; refine (M6.out _ _).mono ?_; (rintro e w' ⟨rfl, hb'⟩; replace hS := hS.keep hb'; clear hb')))
    exact ⟨⟨k + 1, by omega, by go_num, Lib.hid hS⟩, by simp [intOf]; omega⟩
   ·have hS := HB.out
    have d1 : decide ((k : Int) < 3) = false := decide_eq_false (by omega)
    go_wp2_with (first | (go_at_call 10; refine (sanL _ (HL.out.keep hS.b)).mono ?_; (rintro e w' ⟨rfl, hb'⟩; replace hS := hS.keep hb'; clear hb')))
    go_ret
    exact ⟨rfl, hS.b⟩
 have q5 := HMF.out rfl
 have y3 := fun h => HYF.out rfl h
 have y4 := fun h => HYL.out rfl h
 have MY2 := Lib.hid (fun h0 m hm W => MYS.out rfl h0 m hm W)
 have Y3 := Lib.hid y3; have Y4 := Lib.hid y4
 clear HMF HYF HYL MYS y3 y4
 have uf2 : decide (un < hi) = false := by
  rw [decide_eq_true_eq] at uf
  exact decide_eq_false (by omega)
 have hsub : IntKind.i64.wrap (hi - ma) = hi - ma := IntWalk.i64_in _ (by omega)
 have dle : decide (hi - ma ≤ s.lo) = true := decide_eq_true q5
 have dle2 : decide (s.lo < hi - ma) = false := decide_eq_false (by omega)
 have HSUB := Lib.hid hsub; have HDL := Lib.hid dle; have HDL2 := Lib.hid dle2; have P4 := Lib.hid p4; have P5 := Lib.hid p5; have P6 := Lib.hid p6; have P7 := Lib.hid p7
 clear hsub dle dle2 q5 mb p4 p5 p6 p7 q4
 generalize s.lo = sl at *
 generalize s.hi = sh at *
 go_enter Tryz.func6, Tryz.ntmps6
 go_upto_region 1 with fail
 generalize hw0 : World.alloc _ _ = w0
 have hS : Box4 w X Y Z U w0 := by
  rw [← hw0]
  obtain ⟨b1, b2, b3, b4⟩ := alloc4_heap w (.cells X 33) (.cells Y 56) (.cells Z 53) (.cells U 53)
  exact ⟨b1, b2, b3, b4, belB⟩
 clear hw0
 go_upto_region 4 with (first | (refine wpList_load_addr rfl 33 _ rfl ⟨w.heap.size, 0, none⟩ (.agg X) rfl (hS.x.rule HXS.out) ?_) | (refine wpList_load_addr rfl 56 _ rfl ⟨w.heap.size + 1, 0, none⟩ (.agg Y) rfl (hS.y.stamp HYS.out) ?_) | (refine wpList_load_addr rfl 53 _ rfl ⟨w.heap.size + 2, 0, none⟩ (.agg Z) rfl (hS.z.period HZS.out) ?_) | (go_big_want; first | (refine wp_load_addr 33 _ rfl ⟨w.heap.size, 0, none⟩ (.agg X) rfl (hS.x.rule HXS.out) ?_; simp only [Act.put, List.setIfInBounds_toArray, List.set_cons_succ, List.set_cons_zero]) | (refine wp_load_addr 56 _ rfl ⟨w.heap.size + 1, 0, none⟩ (.agg Y) rfl (hS.y.stamp HYS.out) ?_; simp only [Act.put, List.setIfInBounds_toArray, List.set_cons_succ, List.set_cons_zero]) | (refine wp_load_addr 53 _ rfl ⟨w.heap.size + 1, 21, none⟩ _ rfl (hS.y.at_ HY21.out HY22.out) ?_; simp only [Act.put, List.setIfInBounds_toArray, List.set_cons_succ, List.set_cons_zero]) | (refine wp_load_addr 53 _ rfl ⟨w.heap.size + 2, 0, none⟩ (.agg Z) rfl (hS.z.period HZS.out) ?_; simp only [Act.put, List.setIfInBounds_toArray, List.set_cons_succ, List.set_cons_zero]) | (refine wp_load_addr 53 _ rfl ⟨w.heap.size + 3, 0, none⟩ (.agg U) rfl (hS.u.period HUS.out) ?_; simp only [Act.put, List.setIfInBounds_toArray, List.set_cons_succ, List.set_cons_zero])) | (go_at_call 27; refine (HF.out _ hS.b).mono ?_; (rintro e w' ⟨rfl, hb'⟩; replace hS := hS.keep hb'; clear hb')) | (go_at_call 12; refine (HV.out _ hS.b).mono ?_; (rintro e w' ⟨rfl, hb'⟩; replace hS := hS.keep hb'; clear hb')) | (go_at_call 28; refine (HSH.out _).mono ?_; (rintro e w' ⟨rfl, hb'⟩; replace hS := hS.keep hb'; clear hb')) | (go_at_call 29; (first | (with_reducible refine (HPA.out _).mono ?_) | (with_reducible refine (HPB.out _).mono ?_) | (with_reducible refine (HPC.out _).mono ?_)); (rintro e w' ⟨rfl, hb'⟩; replace hS := hS.keep hb'; clear hb')) | (go_at_call 30; refine (HST.out _).mono ?_; (rintro e w' ⟨rfl, hb'⟩; replace hS := hS.keep hb'; clear hb')) | (go_at_call 10; refine (sanL _ (HL.out.keep hS.b)).mono ?_; (rintro e w' ⟨rfl, hb'⟩; replace hS := hS.keep hb'; clear hb')) | (go_at_call 31; refine (M2.out _).mono ?_; (rintro e w' ⟨rfl, hb'⟩; replace hS := hS.keep hb'; clear hb')))
 have HS := Lib.hid hS
 clear hS
 refine wp_det 16 (by kernel_rfl) (by kernel_rfl) (by kernel_rfl) (fun i => [.bool true, .pointer (some ⟨w.heap.size + 2, 1, none⟩), .int .i64 hi, .agg X, .agg Y, .int .i64 n, .int .i64 un, .bool true, .bool false, .bool false, undef, undef, undef, undef, undef, .bool false].getD i undef) (Box4 w X Y Z U) (HS.out.keep (Below.drew (Below.refl _ _))) (fun _ _ h hb => h.keep hb) ?_ ?_
 ·simp only [putL, List.take_succ_cons, List.take_zero, List.drop_succ_cons, List.drop_zero, Act.put, List.setIfInBounds_toArray, List.set_cons_succ, List.set_cons_zero, List.getD_cons_zero, List.getD_cons_succ]
  refine ⟨fun W hS => ?_, fun W hS => ?_, fun W hS => ?_, fun W hS => ?_, fun W hS => ?_, fun W hS => ?_, fun W hS => ?_, fun W hS => ?_, fun W hS => ?_, fun W hS => ?_, fun W hS => ?_, fun W hS => ?_, fun W hS => ?_, fun W hS => ?_, fun W hS => ?_, fun W hS => ?_, trivial⟩
  all_goals
   have hbw := hS.b
   have z1 := hS.z.cell HZ1.out
   go_wp2_with (first | (refine wpList_load_addr rfl 33 _ rfl ⟨w.heap.size, 0, none⟩ (.agg X) rfl (hS.x.rule HXS.out) ?_) | (refine wpList_load_addr rfl 56 _ rfl ⟨w.heap.size + 1, 0, none⟩ (.agg Y) rfl (hS.y.stamp HYS.out) ?_) | (go_at_call 32; refine (M4.out _).mono ?_; rintro e w2 ⟨rfl, hb2⟩))
   exact ⟨rfl, rfl, belB⟩
 intro w9 hS9
 clear uf uf2 HS
 simp only [putL, List.take_succ_cons, List.take_zero, List.drop_succ_cons, List.drop_zero, Act.put, List.setIfInBounds_toArray, List.set_cons_succ, List.set_cons_zero, List.getD_cons_zero, List.getD_cons_succ]
 go_wp2_with fail
 go_loopw [75] (fun iv wr => ∃ k : Nat, k ≤ 3 ∧ iv = .int .i64 k ∧ Hid (Box4 w X Y Z U wr)) (fun iv _ => 3 - (intOf iv).toNat)
 case atStart => exact ⟨0, by omega, rfl, Lib.hid hS9⟩
 case round =>
  obtain ⟨k, hk, rfl, HB⟩ := hrel
  clear hS9
  clear w9
  by_cases hlt : k < 3
  ·have hS := HB.out
   have d1 : decide ((k : Int) < 3) = true := decide_eq_true (by omega)
   have hk0 : (0 : Int) ≤ (k : Int) := by omega
   have hk1 : (k : Int) < 3 := by omega
   have u1 := fun W => M5.out (k : Int) W
   have u0 := fun W => M5.out 0 W
   rw [HUSF.out.zero] at u0
   have hne : us (k : Int) = true → (k : Int) ≠ 2 := fun h e => by rw [e, HUSF.out.two] at h; cases h
   generalize us (k : Int) = ub at *
   have U1 := Lib.hid u1; have U0 := Lib.hid u0
   clear u1 u0
   cases ub
   ·clear hne
    go_wp2_with (first | (refine wpList_load_addr rfl 33 _ rfl ⟨w.heap.size, 0, none⟩ (.agg X) rfl (hS.x.rule HXS.out) ?_) | (refine wpList_load_addr rfl 56 _ rfl ⟨w.heap.size + 1, 0, none⟩ (.agg Y) rfl (hS.y.stamp HYS.out) ?_) | (refine wpList_load_addr rfl 53 _ rfl ⟨w.heap.size + 2, 0, none⟩ (.agg Z) rfl (hS.z.period HZS.out) ?_) | (go_at_call 33; refine (U1.out _).mono ?_; (rintro e w' ⟨rfl, hb'⟩; replace hS := hS.keep hb'; clear hb')))
    exact ⟨⟨k + 1, by omega, by go_num, Lib.hid hS⟩, by simp [intOf]; omega⟩
   ·have hne := hne rfl
    have d2 : decide ((k : Int) = 2) = false := decide_eq_false hne
    have d3 : ((k : Int) == 2) = false := by simpa using hne
    go_wp2_with (first | (refine wpList_load_addr rfl 33 _ rfl ⟨w.heap.size, 0, none⟩ (.agg X) rfl (hS.x.rule HXS.out) ?_) | (refine wpList_load_addr rfl 56 _ rfl ⟨w.heap.size + 1, 0, none⟩ (.agg Y) rfl (hS.y.stamp HYS.out) ?_) | (refine wpList_load_addr rfl 53 _ rfl ⟨w.heap.size + 2, 0, none⟩ (.agg Z) rfl (hS.z.period HZS.out) ?_) | (go_big_want; first | (refine wp_load_addr 33 _ rfl ⟨w.heap.size, 0, none⟩ (.agg X) rfl (hS.x.rule HXS.out) ?_; simp only [Act.put, List.setIfInBounds_toArray, List.set_cons_succ, List.set_cons_zero]) | (refine wp_load_addr 56 _ rfl ⟨w.heap.size + 1, 0, none⟩ (.agg Y) rfl (hS.y.stamp HYS.out) ?_; simp only [Act.put, List.setIfInBounds_toArray, List.set_cons_succ, List.set_cons_zero]) | (refine wp_load_addr 53 _ rfl ⟨w.heap.size + 1, 21, none⟩ _ rfl (hS.y.at_ HY21.out HY22.out) ?_; simp only [Act.put, List.setIfInBounds_toArray, List.set_cons_succ, List.set_cons_zero]) | (refine wp_load_addr 53 _ rfl ⟨w.heap.size + 2, 0, none⟩ (.agg Z) rfl (hS.z.period HZS.out) ?_; simp only [Act.put, List.setIfInBounds_toArray, List.set_cons_succ, List.set_cons_zero]) | (refine wp_load_addr 53 _ rfl ⟨w.heap.size + 3, 0, none⟩ (.agg U) rfl (hS.u.period HUS.out) ?_; simp only [Act.put, List.setIfInBounds_toArray, List.set_cons_succ, List.set_cons_zero])) | (go_at_call 33; (first | (with_reducible refine (U1.out _).mono ?_) | (with_reducible refine (U0.out _).mono ?_)); (rintro e w' ⟨rfl, hb'⟩; replace hS := hS.keep hb'; clear hb')))
    exact ⟨⟨k + 1, by omega, by go_num, Lib.hid hS⟩, by simp [intOf]; omega⟩
  ·have hS := HB.out
   have d1 : decide ((k : Int) < 3) = false := decide_eq_false (by omega)
   go_upto_region 16 with (first | (refine wpList_load_addr rfl 56 _ rfl ⟨w.heap.size + 1, 0, none⟩ (.agg Y) rfl (hS.y.stamp HYS.out) ?_) | (refine wpList_store_row rfl 56 _ _ rfl wr.heap.size Y rfl rfl _ stampZ ((heap_alloc_new wr _).trans rfl) HINF.out HZSZ.out HONE.out ?_))
   obtain ⟨lb, hlb⟩ : ∃ lb, lb = wr.heap.size := ⟨_, rfl⟩
   rw [← hlb]
   generalize hw6 : World.setRow _ _ _ = w6
   have hN : Box5 w X Y Z U lb Y w6 := by
    rw [← hw6, hlb]
    have hbb : Below wr.heap.size wr ((wr.alloc (.cells stampZ 56)).setRow wr.heap.size Y) := below_setRow ((Below.refl _ _).alloc (Nat.le_refl _) _) (Nat.le_refl _) _
    exact ⟨hS.keep hbb, setRow_heap _ _ _ _ _ _ (heap_alloc_new wr _)⟩
   have hne : w.heap.size ≠ lb ∧ w.heap.size + 1 ≠ lb ∧ w.heap.size + 2 ≠ lb ∧ w.heap.size + 3 ≠ lb ∧ w.heap.size ≤ lb := by
    have h1 := hS.u.lt
    omega
   clear hw6 hS HB d1 hlb hk hlt
   have y21 := hN.f.y.cell HY21.out
   have y22 := hN.f.y.cell HY22.out
   have hbw := hN.f.b
   (try simp only [Act.put, List.setIfInBounds_toArray, List.set_cons_succ, List.set_cons_zero])
   go_cut [117] (fun v wx => v = .bool (decide (sl ≤ t) && decide (t ≤ sh)) ∧ wx = w6)
   case first =>
    by_cases c1 : sl ≤ t
    ·have e1 : decide (sl ≤ t) = true := decide_eq_true c1
     have e1' : decide (t < sl) = false := decide_eq_false (by omega)
     by_cases c2 : t ≤ sh
     ·have e2 : decide (t ≤ sh) = true := decide_eq_true c2
      have e2' : decide (sh < t) = false := decide_eq_false (by omega)
      go_wp2_with fail
      go_meet
      exact ⟨by rw [e1, e2]; rfl, rfl⟩
     ·have e2 : decide (t ≤ sh) = false := decide_eq_false c2
      have e2' : decide (sh < t) = true := decide_eq_true (by omega)
      go_wp2_with fail
      go_meet
      exact ⟨by rw [e1, e2]; rfl, rfl⟩
    ·have e1 : decide (sl ≤ t) = false := decide_eq_false c1
     have e1' : decide (t < sl) = true := decide_eq_true (by omega)
     go_wp2_with fail
     go_meet
     exact ⟨by rw [e1]; rfl, rfl⟩
   case rest =>
   obtain ⟨rfl, rfl⟩ := hcut
   clear y21 y22
   have hcc : (decide (sl ≤ t) && decide (t ≤ sh)) = true → sl ≤ t ∧ t ≤ sh := fun h => by simpa using h
   generalize (decide (sl ≤ t) && decide (t ≤ sh)) = cc at *
   have HCC := Lib.hid hcc
   clear hcc
   go_upto_if 117 with fail
   go_cut [] (fun wx => ∃ YL : Array Value, Box5 w X Y Z U lb YL wx ∧ YL.size = 41 ∧ ∀ W, Calls Tryz.prog 31 #[.agg X, .agg YL, .agg Z, .int .i64 n] W (Ret W (.bool true)))
   case first =>
    cases cc
    ·go_wp2_with fail
     go_meet
     exact ⟨Y, hN, HYS.out, M2.out⟩
    ·obtain ⟨c1, c2⟩ := HCC.out rfl
     have m7 := MYL.out (by have := P4.out; omega)
     rw [Y4.out c1] at m7
     have M7 := Lib.hid m7
     clear c1 c2 m7
     have f21 : wc.frozen? ⟨lb, 21, none⟩ = false := frozen_of_row wc lb 21 _ _ hN.l
     have l21 := hN.l.cell HY21.out
     go_wp2_with fail
     go_meet
     refine ⟨Y2, ?_, HLS.out, M7.out⟩
     obtain ⟨n1, n2, n3, n4, n5⟩ := hne
     refine ⟨⟨hN.f.x.far _ _ n1, hN.f.y.far _ _ n2, hN.f.z.far _ _ n3, hN.f.u.far _ _ n4, hN.f.b.setCell n5 _⟩, ?_⟩
     have := heap_setCell_same wc lb 21 _ _ (.int .i64 t) hN.l
     rw [HSET.out] at this
     exact this
   case rest =>
   obtain ⟨YL, hM, hly, m7⟩ := hcut
   have HM := Lib.hid hM; have HLY := Lib.hid hly; have M7 := Lib.hid m7
   clear hM hly m7 hN hne MYL Y4 HSET HLS HCC
   have hbw2 := HM.out.f.b
   have u1 := HM.out.f.u.cell HU1.out
   have z1 := HM.out.f.z.cell HZ1.out
   go_upto_region 18 with fail
   go_cut [17] (fun v wx => v = .bool true ∧ Box5 w X Y Z U lb YL wx)
   case first =>
    have hS := HM.out
    by_cases c3 : hi < hi2
    ·have d3 : decide (hi < hi2) = true := decide_eq_true c3
     clear c3 Y3
     go_wp2_with (first | (refine wpList_load_addr rfl 33 _ rfl ⟨w.heap.size, 0, none⟩ (.agg X) rfl (hS.f.x.rule HXS.out) ?_) | (refine wpList_load_addr rfl 56 _ rfl ⟨w.heap.size + 1, 0, none⟩ (.agg Y) rfl (hS.f.y.stamp HYS.out) ?_) | (refine wpList_load_addr rfl 53 _ rfl ⟨w.heap.size + 2, 0, none⟩ (.agg Z) rfl (hS.f.z.period HZS.out) ?_) | (refine wpList_load_addr rfl 53 _ rfl ⟨w.heap.size + 3, 0, none⟩ (.agg U) rfl (hS.f.u.period HUS.out) ?_) | (refine wpList_load_addr rfl 56 _ rfl ⟨lb, 0, none⟩ (.agg YL) rfl (hS.l.stamp HLY.out) ?_) | (go_big_want; first | (refine wp_load_addr 33 _ rfl ⟨w.heap.size, 0, none⟩ (.agg X) rfl (hS.f.x.rule HXS.out) ?_; simp only [Act.put, List.setIfInBounds_toArray, List.set_cons_succ, List.set_cons_zero]) | (refine wp_load_addr 56 _ rfl ⟨w.heap.size + 1, 0, none⟩ (.agg Y) rfl (hS.f.y.stamp HYS.out) ?_; simp only [Act.put, List.setIfInBounds_toArray, List.set_cons_succ, List.set_cons_zero]) | (refine wp_load_addr 53 _ rfl ⟨w.heap.size + 2, 0, none⟩ (.agg Z) rfl (hS.f.z.period HZS.out) ?_; simp only [Act.put, List.setIfInBounds_toArray, List.set_cons_succ, List.set_cons_zero]) | (refine wp_load_addr 53 _ rfl ⟨w.heap.size + 3, 0, none⟩ (.agg U) rfl (hS.f.u.period HUS.out) ?_; simp only [Act.put, List.setIfInBounds_toArray, List.set_cons_succ, List.set_cons_zero]) | (refine wp_load_addr 56 _ rfl ⟨lb, 0, none⟩ (.agg YL) rfl (hS.l.stamp HLY.out) ?_; simp only [Act.put, List.setIfInBounds_toArray, List.set_cons_succ, List.set_cons_zero])) | (go_at_call 31; refine (M3.out _).mono ?_; (rintro e w' ⟨rfl, hb'⟩; replace hS := hS.keep hb'; clear hb')))
     go_meet
     exact ⟨rfl, hS⟩
    ·have y3 := Y3.out (by omega)
     have d3 : decide (hi < hi2) = false := decide_eq_false c3
     rw [y3] at M3
     clear c3 Y3 y3
     go_wp2_with (first | (refine wpList_load_addr rfl 33 _ rfl ⟨w.heap.size, 0, none⟩ (.agg X) rfl (hS.f.x.rule HXS.out) ?_) | (refine wpList_load_addr rfl 56 _ rfl ⟨w.heap.size + 1, 0, none⟩ (.agg Y) rfl (hS.f.y.stamp HYS.out) ?_) | (refine wpList_load_addr rfl 53 _ rfl ⟨w.heap.size + 2, 0, none⟩ (.agg Z) rfl (hS.f.z.period HZS.out) ?_) | (refine wpList_load_addr rfl 53 _ rfl ⟨w.heap.size + 3, 0, none⟩ (.agg U) rfl (hS.f.u.period HUS.out) ?_) | (refine wpList_load_addr rfl 56 _ rfl ⟨lb, 0, none⟩ (.agg YL) rfl (hS.l.stamp HLY.out) ?_) | (go_big_want; first | (refine wp_load_addr 33 _ rfl ⟨w.heap.size, 0, none⟩ (.agg X) rfl (hS.f.x.rule HXS.out) ?_; simp only [Act.put, List.setIfInBounds_toArray, List.set_cons_succ, List.set_cons_zero]) | (refine wp_load_addr 56 _ rfl ⟨w.heap.size + 1, 0, none⟩ (.agg Y) rfl (hS.f.y.stamp HYS.out) ?_; simp only [Act.put, List.setIfInBounds_toArray, List.set_cons_succ, List.set_cons_zero]) | (refine wp_load_addr 53 _ rfl ⟨w.heap.size + 2, 0, none⟩ (.agg Z) rfl (hS.f.z.period HZS.out) ?_; simp only [Act.put, List.setIfInBounds_toArray, List.set_cons_succ, List.set_cons_zero]) | (refine wp_load_addr 53 _ rfl ⟨w.heap.size + 3, 0, none⟩ (.agg U) rfl (hS.f.u.period HUS.out) ?_; simp only [Act.put, List.setIfInBounds_toArray, List.set_cons_succ, List.set_cons_zero]) | (refine wp_load_addr 56 _ rfl ⟨lb, 0, none⟩ (.agg YL) rfl (hS.l.stamp HLY.out) ?_; simp only [Act.put, List.setIfInBounds_toArray, List.set_cons_succ, List.set_cons_zero])) | (go_at_call 31; refine (M3.out _).mono ?_; (rintro e w' ⟨rfl, hb'⟩; replace hS := hS.keep hb'; clear hb')))
     go_meet
     exact ⟨rfl, hS⟩
   case rest =>
   obtain ⟨rfl, hM2⟩ := hcut
   have HM2 := Lib.hid hM2
   clear hM2 u1 z1 hbw2 HM Y3 M3
   go_upto_region 19 with fail
   go_cut [18] (fun v wx => v = .bool true ∧ Box5 w X Y Z U lb YL wx)
   case first =>
    have hS := HM2.out
    by_cases c4 : n = 0
    ·have MY3 := Lib.hid (fun W => MY2.out c4 1 (.inr (.inl rfl)) W)
     have MY4 := Lib.hid (fun W => MY2.out c4 2 (.inr (.inr rfl)) W)
     have d4 : decide (n = 0) = true := decide_eq_true c4
     have d5 : (n == 0) = true := by simpa using c4
     have d6 : (n != 0) = false := by simpa using c4
     clear c4 MY2
     go_wp2_with (first | (refine wpList_load_addr rfl 33 _ rfl ⟨w.heap.size, 0, none⟩ (.agg X) rfl (hS.f.x.rule HXS.out) ?_) | (refine wpList_load_addr rfl 56 _ rfl ⟨w.heap.size + 1, 0, none⟩ (.agg Y) rfl (hS.f.y.stamp HYS.out) ?_) | (refine wpList_load_addr rfl 53 _ rfl ⟨w.heap.size + 2, 0, none⟩ (.agg Z) rfl (hS.f.z.period HZS.out) ?_) | (refine wpList_load_addr rfl 53 _ rfl ⟨w.heap.size + 3, 0, none⟩ (.agg U) rfl (hS.f.u.period HUS.out) ?_) | (refine wpList_load_addr rfl 56 _ rfl ⟨lb, 0, none⟩ (.agg YL) rfl (hS.l.stamp HLY.out) ?_) | (go_big_want; first | (refine wp_load_addr 33 _ rfl ⟨w.heap.size, 0, none⟩ (.agg X) rfl (hS.f.x.rule HXS.out) ?_; simp only [Act.put, List.setIfInBounds_toArray, List.set_cons_succ, List.set_cons_zero]) | (refine wp_load_addr 56 _ rfl ⟨w.heap.size + 1, 0, none⟩ (.agg Y) rfl (hS.f.y.stamp HYS.out) ?_; simp only [Act.put, List.setIfInBounds_toArray, List.set_cons_succ, List.set_cons_zero]) | (refine wp_load_addr 53 _ rfl ⟨w.heap.size + 2, 0, none⟩ (.agg Z) rfl (hS.f.z.period HZS.out) ?_; simp only [Act.put, List.setIfInBounds_toArray, List.set_cons_succ, List.set_cons_zero]) | (refine wp_load_addr 53 _ rfl ⟨w.heap.size + 3, 0, none⟩ (.agg U) rfl (hS.f.u.period HUS.out) ?_; simp only [Act.put, List.setIfInBounds_toArray, List.set_cons_succ, List.set_cons_zero]) | (refine wp_load_addr 56 _ rfl ⟨lb, 0, none⟩ (.agg YL) rfl (hS.l.stamp HLY.out) ?_; simp only [Act.put, List.setIfInBounds_toArray, List.set_cons_succ, List.set_cons_zero])) | (go_at_call 31; (first | (with_reducible refine (MY3.out _).mono ?_) | (with_reducible refine (MY4.out _).mono ?_)); (rintro e w' ⟨rfl, hb'⟩; replace hS := hS.keep hb'; clear hb')))
     go_meet
     exact ⟨rfl, hS⟩
    ·have d4 : decide (n = 0) = false := decide_eq_false c4
     have d5 : (n == 0) = false := by simpa using c4
     have d6 : (n != 0) = true := by simpa using c4
     clear c4 MY2
     go_wp2_with fail
     go_meet
     exact ⟨rfl, hS⟩
   case rest =>
   obtain ⟨rfl, hM3⟩ := hcut
   have HS := Lib.hid hM3
   clear hM3 HM2 MY2
   go_upto_region 20 with fail
   refine wp_det 28 (by kernel_rfl) (by kernel_rfl) (by kernel_rfl) (fun i => [.bool true, .bool true, .bool true, .bool true, .bool true, .bool true, .bool true, .bool true, .agg X, .agg YL, .agg Z, .int .i64 n, .bool true, .bool true, .bool true, .pointer (some ⟨w.heap.size + 2, 1, none⟩), .int .i64 hi, .agg X, .pointer (some ⟨w.heap.size + 1, 2, none⟩), .int .i64 st, .int .i64 n, .int .i64 ma, .int .i64 (hi - ma), .pointer (some ⟨w.heap.size + 1, 21, none⟩), .pointer (some ⟨w.heap.size + 1, 21, none⟩), .int .i64 sl, .bool true, .bool true].getD i undef) (Box5 w X Y Z U lb YL) (HS.out.keep (Below.drew (Below.refl _ _))) (fun _ _ h hb => h.keep hb) ?_ ?_
   ·simp only [putL, List.take_succ_cons, List.take_zero, List.drop_succ_cons, List.drop_zero, Act.put, List.setIfInBounds_toArray, List.set_cons_succ, List.set_cons_zero, List.getD_cons_zero, List.getD_cons_succ]
    refine ⟨fun W hS => ?_, fun W hS => ?_, fun W hS => ?_, fun W hS => ?_, fun W hS => ?_, fun W hS => ?_, fun W hS => ?_, fun W hS => ?_, fun W hS => ?_, fun W hS => ?_, fun W hS => ?_, fun W hS => ?_, fun W hS => ?_, fun W hS => ?_, fun W hS => ?_, fun W hS => ?_, fun W hS => ?_, fun W hS => ?_, fun W hS => ?_, fun W hS => ?_, fun W hS => ?_, fun W hS => ?_, fun W hS => ?_, fun W hS => ?_, fun W hS => ?_, fun W hS => ?_, fun W hS => ?_, fun W hS => ?_, trivial⟩
    all_goals
     have hbw := hS.f.b
     have y2 := hS.f.y.cell HY2.out
     have y21 := hS.f.y.cell HY21.out
     have z1 := hS.f.z.cell HZ1.out
     have e1 := HSUB.out
     have e2 := HDL.out
     have e3 := HDL2.out
     go_wp2_with (first | (refine wpList_load_addr rfl 33 _ rfl ⟨w.heap.size, 0, none⟩ (.agg X) rfl (hS.f.x.rule HXS.out) ?_) | (refine wpList_load_addr rfl 56 _ rfl ⟨w.heap.size + 1, 0, none⟩ (.agg Y) rfl (hS.f.y.stamp HYS.out) ?_) | (refine wpList_load_addr rfl 53 _ rfl ⟨w.heap.size + 2, 0, none⟩ (.agg Z) rfl (hS.f.z.period HZS.out) ?_) | (refine wpList_load_addr rfl 53 _ rfl ⟨w.heap.size + 3, 0, none⟩ (.agg U) rfl (hS.f.u.period HUS.out) ?_) | (refine wpList_load_addr rfl 56 _ rfl ⟨lb, 0, none⟩ (.agg YL) rfl (hS.l.stamp HLY.out) ?_) | (go_big_want; first | (refine wp_load_addr 33 _ rfl ⟨w.heap.size, 0, none⟩ (.agg X) rfl (hS.f.x.rule HXS.out) ?_; simp only [Act.put, List.setIfInBounds_toArray, List.set_cons_succ, List.set_cons_zero]) | (refine wp_load_addr 56 _ rfl ⟨w.heap.size + 1, 0, none⟩ (.agg Y) rfl (hS.f.y.stamp HYS.out) ?_; simp only [Act.put, List.setIfInBounds_toArray, List.set_cons_succ, List.set_cons_zero]) | (refine wp_load_addr 53 _ rfl ⟨w.heap.size + 2, 0, none⟩ (.agg Z) rfl (hS.f.z.period HZS.out) ?_; simp only [Act.put, List.setIfInBounds_toArray, List.set_cons_succ, List.set_cons_zero]) | (refine wp_load_addr 53 _ rfl ⟨w.heap.size + 3, 0, none⟩ (.agg U) rfl (hS.f.u.period HUS.out) ?_; simp only [Act.put, List.setIfInBounds_toArray, List.set_cons_succ, List.set_cons_zero]) | (refine wp_load_addr 56 _ rfl ⟨lb, 0, none⟩ (.agg YL) rfl (hS.l.stamp HLY.out) ?_; simp only [Act.put, List.setIfInBounds_toArray, List.set_cons_succ, List.set_cons_zero])) | (go_at_call 10; refine (sanL _ (HL.out.keep hS.f.b)).mono ?_; rintro e w2 ⟨rfl, hb2⟩) | (go_at_call 31; refine (M7.out _).mono ?_; rintro e w2 ⟨rfl, hb2⟩) | (go_at_call 34; refine (M1.out _).mono ?_; rintro e w2 ⟨rfl, hb2⟩))
     exact ⟨rfl, rfl, belB⟩
   intro w11 hS11
   have hbE := hS11.f.b
   simp only [putL, List.take_succ_cons, List.take_zero, List.drop_succ_cons, List.drop_zero, Act.put, List.setIfInBounds_toArray, List.set_cons_succ, List.set_cons_zero, List.getD_cons_zero, List.getD_cons_succ]
   go_wp2
   go_ret
   exact ⟨rfl, hbE⟩
end Go.Proofs.YtdlbfjoemabfpaaGreatDoor
namespace Go.Proofs.YtdlbfjoemabfpaaGreatDoor
open Go.RowKit Go.Sort
set_option linter.unusedVariables false
set_option linter.unusedSimpArgs false
set_option maxRecDepth 100000
theorem cellsPe : Tryz.prog.cellsOf 53 = 2 := by kernel_rfl
section
variable {H : Type} {enc : TypeId × Value → H} {W : World} {base : Nat} {sp : Nat → Bool} {hd : Bool}
end
end Go.Proofs.YtdlbfjoemabfpaaGreatDoor
