/- Layer 24's example: the law's sanity returns true. -/
import Derived.Test.YtjhlpkhfdghngaaGreatDoorGZ47
import Derived.Test.YtjhlpkhfdghngaaGreatDoorProg
import Derived.WalkKit
import Derived.WalkSpells
import Derived.WalkLawsBesides
import Derived.Below
import Derived.Deep.QuietTactic
import Derived.BigQuiet
import Derived.Lib.QuietBelow
import Derived.Lib.Strings
import Derived.Lib.Hide
import Derived.Deep.RegionWith
import Derived.Deep.RegionHeld3
import Derived.Lib.IndexBytes
import Derived.Test.YtjhlpkhfdghngaaGreatDoorGZ45
namespace Go.Proofs.YtjhlpkhfdghngaaGreatDoor
open Go.RowKit Go.Sort
set_option linter.unusedVariables false
set_option linter.unusedSimpArgs false
set_option maxRecDepth 100000
theorem ask1_load {W : World} {g : Nat} {X : Array Value} (h : Box1 W g 55 X) (hs : X.size = 6) : (loadVar 55 ⟨g, 0, none⟩).run Tryz.prog W = .ok (.agg X) W :=
  run_loadVar_row (P := Tryz.prog) W g _ 55 X _ _ h Tryz.underlying55 rfl (by rw [hs]; kernel_rfl)
set_option maxHeartbeats 8000000 in
theorem san24_any (w : World) (hE : Env w) (hT : Tab w) : Calls Tryz.prog 19 #[] w (Ret w (.bool true)) := by
  have hg1 := fun W (hb : Below w.heap.size w W) => gapE1 W (hE.keep hb) (hT.keep hb)
  have hg2 := fun W (hb : Below w.heap.size w W) => gapE2 W (hE.keep hb) (hT.keep hb)
  have hg3 := fun W (hb : Below w.heap.size w W) => gapE3 W (hE.keep hb) (hT.keep hb)
  have r1 := fun T W => rule24_any (⟨#[111, 110, 101]⟩ : ByteArray) (⟨#[97, 99, 109, 101, 47, 42, 42]⟩ : ByteArray) (some ⟨T, 0, none⟩) 1 1 ⟨#[]⟩ W
  have r2 := fun U W => rule24_any (⟨#[116, 119, 111]⟩ : ByteArray) (⟨#[97, 99, 109, 101, 47, 97]⟩ : ByteArray) (some ⟨U, 0, none⟩) 2 2 ⟨#[]⟩ W
  have r3 := fun W => rule24_any (⟨#[116, 104, 114, 101, 101]⟩ : ByteArray) (⟨#[97, 99, 109, 101, 47, 97]⟩ : ByteArray) none 0 0 (⟨#[97, 99, 109, 101, 47, 98]⟩ : ByteArray) W
  have HG1 := Lib.hid hg1; have HG2 := Lib.hid hg2; have HG3 := Lib.hid hg3; have R1 := Lib.hid r1; have R2 := Lib.hid r2; have R3 := Lib.hid r3; have HE := Lib.hid hE; have HT := Lib.hid hT
  clear hg1 hg2 hg3 r1 r2 r3 hE hT
  go_enter Tryz.func19, Tryz.ntmps19
  go_upto_region 2 with (go_at_call 20; refine (HG1.out w (Below.refl _ _)).mono ?_; rintro e w1 ⟨s1, rfl, hb1⟩)
  go_upto_region 3 with (go_at_call 20; refine (HG2.out w1 hb1).mono ?_; rintro e w2 ⟨rfl, hb2⟩)
  have hbw2 := bstep hb1 hb2
  go_upto_region 4 with (go_at_call 20; refine (HG3.out w2 hbw2).mono ?_; rintro e w3 ⟨s3, rfl, hm3, hz3, hb3⟩)
  have hbw3 := bstep hbw2 hb3
  obtain ⟨hm31, hm32, hm33⟩ := hm3
  have HM1 := Lib.hid hm31; have HM2 := Lib.hid hm32; have HM3 := Lib.hid hm33
  clear hm31 hm32 hm33 hb1 hb2 hb3 hbw2 HG1 HG2 HG3
  go_wp2_with fail
  refine (R1.out _ _).mono ?_
  rintro e wA ⟨rfl, hbA⟩
  generalize hXA : List.toArray (row24 _ _ _ _ _ _) = XA
  go_wp2_with fail
  refine (R2.out _ _).mono ?_
  rintro e wB ⟨rfl, hbB⟩
  generalize hXB : List.toArray (row24 _ _ _ _ _ _) = XB
  go_wp2_with fail
  refine (R3.out _).mono ?_
  rintro e wC ⟨rfl, hbC⟩
  generalize hXC : List.toArray (row24 _ _ _ _ _ _) = XC
  have hbs := fun W => run_bs24 w3.heap.size wA.heap.size W
  rw [hXA, hXB, hXC] at hbs
  generalize hZ : ((rL (some ⟨w3.heap.size, 0, none⟩) (some ⟨wA.heap.size, 0, none⟩)).flatMap RuleM.cells).toArray = Z at hbs
  have HBS := Lib.hid hbs; have HZ := Lib.hid hZ; have HXA := Lib.hid hXA
  have sA := hbA.size
  have sB := hbB.size
  have sC := hbC.size
  rw [World.size_alloc] at sA sB
  have bT : wC.heap[w3.heap.size]? = some (.cells #[.string (⟨#[104, 111, 116]⟩ : ByteArray)] 9 (0, 0)) := (hbC.block _ (by omega)).trans ((hbB.block _ (by rw [World.size_alloc]; omega)).trans ((heap_alloc_old wA _ (by omega)).trans ((hbA.block _ (by rw [World.size_alloc]; omega)).trans (heap_alloc_new w3 _))))
  have bU : wC.heap[wA.heap.size]? = some (.cells #[.string (⟨#[104, 111, 116]⟩ : ByteArray), .string (⟨#[110, 101, 119]⟩ : ByteArray)] 9 (0, 0)) := (hbC.block _ (by omega)).trans ((hbB.block _ (by rw [World.size_alloc]; omega)).trans (heap_alloc_new wA _))
  have hbwC : Below w.heap.size w wC := bstep (bstep (hbw3.trans (((Below.refl _ _).alloc (Nat.le_refl _) _ |>.trans (hbA.mono (by rw [World.size_alloc]; omega))).mono (by have := hbw3.size; omega))) (((Below.refl _ _).alloc (Nat.le_refl _) _).trans (hbB.mono (by rw [World.size_alloc]; omega)))) hbC
  clear hbs hZ hXA hXB hXC R1 R2 R3 hbA hbB hbC
  go_upto_region 5 with (refine wpList_buildSlice_as rfl _ _ _ rfl _ (by kernel_rfl) _ _ (HBS.out _) ?_)
  generalize hw4 : World.alloc _ _ = w4
  obtain ⟨gl, hgl⟩ : ∃ gl, gl = wC.heap.size := ⟨_, rfl⟩
  have hal4 : Below wC.heap.size wC w4 := by rw [← hw4]; exact (Below.refl _ _).alloc (Nat.le_refl _) _
  have bl : w4.heap[gl]? = some (.cells ((rL (some ⟨w3.heap.size, 0, none⟩) (some ⟨wA.heap.size, 0, none⟩)).flatMap RuleM.cells).toArray 33 (0, 0)) := by rw [← hw4, HZ.out, hgl]; exact heap_alloc_new wC _
  have hLR := rules24 bl ((hal4.block _ (by omega)).trans bT) ((hal4.block _ (by omega)).trans bU)
  have hbw4 := bstep hbwC hal4
  rw [← hgl]
  obtain ⟨T, hT⟩ : ∃ T, T = w3.heap.size := ⟨_, rfl⟩
  obtain ⟨U, hU⟩ : ∃ U, U = wA.heap.size := ⟨_, rfl⟩
  rw [← hT, ← hU] at hLR
  have HLR := Lib.hid hLR; have HBW4 := Lib.hid hbw4; have HBW3 := Lib.hid hbw3
  clear hLR bl hal4 bT bU hw4 hgl hT hU HXA HZ HBS hbwC sA sB sC
  have he4 := HE.out.keep hbw4
  have ht4 := HT.out.keep hbw4
  have HE4 := Lib.hid he4; have HT4 := Lib.hid ht4
  clear he4 ht4 hbw3 hbw4
  go_wp2_with fail
  refine (shE1 w4 HLR.out HE4.out HT4.out).mono ?_
  rintro e w5 ⟨s5, rfl, hb5⟩
  go_wp2_with fail
  refine (shE2 w5 (HLR.out.keep hb5) (HE4.out.keep hb5) (HT4.out.keep hb5)).mono ?_
  rintro e w6 ⟨rfl, hb6⟩
  have hb46 := bstep hb5 hb6
  go_wp2_with fail
  refine (deE2 w6 (HLR.out.keep hb46) (HE4.out.keep hb46) (HT4.out.keep hb46)).mono ?_
  rintro e w7 ⟨⟨a0, a1, a2, a3, a4, a5⟩, rfl, hb7⟩
  dsimp only [AskV.val]
  have hb47 := bstep hb46 hb7
  go_wp2_with fail
  have hb48 : Below w4.heap.size w4 (w7.alloc (.cells #[.string a0, .string a1, .string a2, .int .i64 a3, .int .i64 a4, .int .i64 a5] 55)) := balloc hb47 _
  refine (deE0 _ (HLR.out.keep hb48) (HE4.out.keep hb48) (HT4.out.keep hb48)).mono ?_
  rintro e w8 ⟨⟨c0, c1, c2, c3, c4, c5⟩, rfl, ⟨hho, hfi⟩, hb8⟩
  dsimp only [AskV.val]
  have hb49 := bstep hb48 hb8
  have HHO := Lib.hid hho; have HFI := Lib.hid hfi
  clear hho hfi hb5 hb6 hb7 hb8 hb46 hb47 hb48
  have hw9 : Box1 (w8.alloc (.cells #[.string c0, .string c1, .string c2, .int .i64 c3, .int .i64 c4, .int .i64 c5] 55)) w8.heap.size 55 #[.string c0, .string c1, .string c2, .int .i64 c3, .int .i64 c4, .int .i64 c5] := heap_alloc_new w8 _
  have hbz := balloc hb49 (.cells #[.string c0, .string c1, .string c2, .int .i64 c3, .int .i64 c4, .int .i64 c5] 55)
  obtain ⟨gz, hgz⟩ : ∃ gz, gz = w8.heap.size := ⟨_, rfl⟩
  rw [← hgz] at hw9
  go_upto_region 9 with fail
  rw [← hgz]
  generalize World.alloc w8 _ = w9 at *
  have hm1 := fun W (hb : Below w4.heap.size w4 W) => (show Calls Tryz.prog 21 #[.string (⟨#[97, 99, 109, 101, 47, 42]⟩ : ByteArray), .string s3] W (Ret W (.bool true)) from HM1.out ▸ match_any (⟨#[97, 99, 109, 101, 47, 42]⟩ : ByteArray) s3 W (by decide) (by omega) (HE4.out.keep hb))
  have hm2 := fun W (hb : Below w4.heap.size w4 W) => (show Calls Tryz.prog 21 #[.string (⟨#[97, 99, 109, 101, 47, 42, 46, 99, 115, 115]⟩ : ByteArray), .string s3] W (Ret W (.bool false)) from HM2.out ▸ match_any (⟨#[97, 99, 109, 101, 47, 42, 46, 99, 115, 115]⟩ : ByteArray) s3 W (by decide) (by omega) (HE4.out.keep hb))
  have HN1 := Lib.hid hm1; have HN2 := Lib.hid hm2
  have hsa : SaS w4 gl T U gz ⟨c0, c1, c2, c3, c4, c5⟩ w9 := ⟨HLR.out.keep hbz, hw9, hbz⟩
  have HS := Lib.hid hsa
  have HM3' := HM3.out
  clear hm1 hm2 hsa hw9 hgz hb49 HM1 HM2
  go_wp2_with fail
  refine (HN1.out w9 HS.out.b).mono ?_
  rintro e wx ⟨rfl, hbx⟩
  have HS2 := Lib.hid (HS.out.keep hbx)
  clear HS hbx
  go_wp2_with fail
  refine (HN2.out wx HS2.out.b).mono ?_
  rintro e wy ⟨rfl, hby⟩
  have HS3 := Lib.hid (HS2.out.keep hby)
  clear HS2 hby
  rw [show ((⟨#[97, 99, 109, 101, 47, 97]⟩ : ByteArray) : ByteArray).toList = [97, 99, 109, 101, 47, 97] from Lib.toList_data _] at HM3'
  have hm3 := Lib.hid HM3'
  clear HM3 HM3'
  go_upto_region 11 with fail
  rw [hm3.out]
  simp only [Bool.not_false]
  have hld : ∀ W, SaS w4 gl T U gz ⟨c0, c1, c2, c3, c4, c5⟩ W → (loadVar 33 ⟨gl, 0, none⟩).run Tryz.prog W = .ok (rA (some ⟨T, 0, none⟩)).val W := fun W h => by
    obtain ⟨_, b, o, hbo, hcell⟩ := h.l.at_ (k := 0) (x := rA (some ⟨T, 0, none⟩)) rfl
    have hbo2 := Option.some.inj hbo
    injection hbo2 with e1 e2
    subst e1; subst e2
    exact rule_load W _ 0 _ (fun j u hu => by have := hcell j u hu; rwa [Nat.zero_mul, Nat.add_zero] at this)
  have hpe : ∀ W, SaS w4 gl T U gz ⟨c0, c1, c2, c3, c4, c5⟩ W → Calls Tryz.prog 29 #[(rA (some ⟨T, 0, none⟩)).val, AskV.val ⟨c0, c1, c2, c3, c4, c5⟩] W (Ret W (.bool true)) := fun W h => HHO.out ▸ permits_any _ _ W (h.l.at_ (k := 0) rfl).1 (rFit (some ⟨T, 0, none⟩) (some ⟨U, 0, none⟩) _ (List.Mem.head _)).c HFI.out (HE4.out.keep h.b)
  have hbx : ∀ W, SaS w4 gl T U gz ⟨c0, c1, c2, c3, c4, c5⟩ W → (loadVar 55 ⟨gz, 0, none⟩).run Tryz.prog W = .ok (AskV.val ⟨c0, c1, c2, c3, c4, c5⟩) W := fun W h => ask1_load h.z rfl
  unfold AskV.val at hpe hbx
  dsimp only at hpe hbx
  unfold RuleM.val at hld hpe
  have hbe : ∀ W, SaS w4 gl T U gz ⟨c0, c1, c2, c3, c4, c5⟩ W → Below w.heap.size w W := fun W h => bstep HBW4.out h.b
  generalize (rA (some ⟨T, 0, none⟩)).cells.toArray = XR at *
  generalize #[Value.string c0, .string c1, .string c2, .int .i64 c3, .int .i64 c4, .int .i64 c5] = XQ at *
  have hke : ∀ W W', SaS w4 gl T U gz ⟨c0, c1, c2, c3, c4, c5⟩ W → Below W.heap.size W W' → SaS w4 gl T U gz ⟨c0, c1, c2, c3, c4, c5⟩ W' := fun _ _ h hb => h.keep hb
  have h0 := HS3.out
  generalize SaS w4 gl T U gz ⟨c0, c1, c2, c3, c4, c5⟩ = SS at *
  have HL := Lib.hid hld; have HP := Lib.hid hpe; have HX := Lib.hid hbx; have HK := Lib.hid hke; have HB := Lib.hid hbe
  clear hld hpe hbx hke hbe HLR HHO HFI HN1 HN2 HS3 HBW4 HBW3 HE4 HT4 HE HT hm3 hz3
  refine wp_det 29 (by kernel_rfl) (by kernel_rfl) (by kernel_rfl) (fun i => [.bool true, .bool true, .bool true, .bool true, .bool true, .bool true, .bool true, .bool true, .bool false, .bool true, .bool true, .bool true, .string (⟨#[97, 99, 109, 101, 47, 97]⟩ : ByteArray), .bool true, .bool true, .bool true, .bool true, .bool true, .bool true, .bool false, .bool true, .bool true, .bool true, .slice (some ⟨gl, 0, none⟩) 3 3, .pointer (some ⟨gl, 0, none⟩), .agg XR, .agg XQ, .bool true, .bool true].getD i undef) SS (HK.out _ _ h0 (Below.drew (Below.refl _ _))) (fun _ _ h hb => HK.out _ _ h hb) ?_ ?_
  · simp only [putL, List.take_succ_cons, List.take_zero, List.drop_succ_cons, List.drop_zero, Act.put, List.setIfInBounds_toArray, List.set_cons_succ, List.set_cons_zero, List.getD_cons_zero, List.getD_cons_succ]
    refine ⟨fun W hS => ?_, fun W hS => ?_, fun W hS => ?_, fun W hS => ?_, fun W hS => ?_, fun W hS => ?_, fun W hS => ?_, fun W hS => ?_, fun W hS => ?_, fun W hS => ?_, fun W hS => ?_, fun W hS => ?_, fun W hS => ?_, fun W hS => ?_, fun W hS => ?_, fun W hS => ?_, fun W hS => ?_, fun W hS => ?_, fun W hS => ?_, fun W hS => ?_, fun W hS => ?_, fun W hS => ?_, fun W hS => ?_, fun W hS => ?_, fun W hS => ?_, fun W hS => ?_, fun W hS => ?_, fun W hS => ?_, fun W hS => ?_, trivial⟩
    all_goals
      go_wp2_with (first | (refine wpList_load_wanted (by kernel_rfl) 33 _ rfl ⟨gl, 0, none⟩ (.agg XR) rfl (HL.out _ hS) ?_) | (refine wpList_load_wanted (by kernel_rfl) 55 _ rfl ⟨gz, 0, none⟩ (.agg XQ) rfl (HX.out _ hS) ?_) | (go_at_call 29; refine (HP.out _ hS).mono ?_; rintro e w2 ⟨rfl, hb2⟩; replace hS := HK.out _ _ hS hb2))
      exact ⟨rfl, rfl, by first | exact Below.refl _ _ | assumption⟩
  intro wz hSz
  simp only [putL, List.take_succ_cons, List.take_zero, List.drop_succ_cons, List.drop_zero, Act.put, List.setIfInBounds_toArray, List.set_cons_succ, List.set_cons_zero, List.getD_cons_zero, List.getD_cons_succ]
  have hbE := HB.out _ hSz
  go_wp2
  go_ret
  exact ⟨rfl, hbE⟩
end Go.Proofs.YtjhlpkhfdghngaaGreatDoor
namespace Go.Proofs.YtjhlpkhfdghngaaGreatDoor
open Go.RowKit Go.Sort
set_option linter.unusedVariables false
set_option linter.unusedSimpArgs false
set_option maxRecDepth 100000
def MSt (f : ByteArray → Bool) (bs : List ByteArray) (k : Nat) (v : Value) : Prop := v = .bool ((bs.take k).any f)
theorem any_take_step (f : ByteArray → Bool) (bs : List ByteArray) (k : Nat) (b : ByteArray) (h : bs[k]? = some b) : (bs.take (k + 1)).any f = ((bs.take k).any f || f b) := by
  rw [List.take_add_one, h, List.any_append]; simp
set_option maxHeartbeats 8000000 in
theorem lawGaps (p : ByteArray) (A : Option Addr) (n c : Nat) (bs : List ByteArray) (ad : ByteArray) (w : World) (hR : Reads w 1 A n (bs.map .string)) (hn : n ≤ 9223372036854775807) (hE : Env w) (hT : Tab w) :
    Calls Tryz.prog 4 #[.string p, .slice A n c, .string ad] w (Ret w (.bool true)) := by
  have hl : bs.length = n := by have := hR.1; simpa using this
  have cS := fun W (hb : Below w.heap.size w W) => short_any p A n c bs W (hR.keep hb) hn
  have cN := fun W (hb : Below w.heap.size w W) => san24_any W (hE.keep hb) (hT.keep hb)
  have HN := Lib.hid cN; have HE := Lib.hid hE; have HT := Lib.hid hT; have HR := Lib.hid hR; have HL := Lib.hid hl
  clear cN hE hT hR hl
  cases hsh : shortB p bs
  · rw [hsh] at cS
    have HS := Lib.hid cS
    clear cS hsh
    go_enter Tryz.func4, Tryz.ntmps4
    go_wp2_with (first | (go_at_call 18; refine (HS.out _ belB).mono ?_; rintro e wh ⟨rfl, hbh⟩) | (go_at_call 19; refine (HN.out _ belB).mono ?_; rintro e wn ⟨rfl, hbn⟩))
    go_ret
    exact ⟨rfl, belB⟩
  rw [hsh] at cS
  have HS := Lib.hid cS
  clear cS
  obtain ⟨h300, hp3, _⟩ := short_facts hsh
  clear hsh
  have H3 := Lib.hid h300
  clear h300
  rcases Nat.lt_or_ge 10 n with h10 | h10
  · go_enter Tryz.func4, Tryz.ntmps4
    go_wp2_with (first | (go_at_call 18; refine (HS.out _ belB).mono ?_; rintro e wh ⟨rfl, hbh⟩) | (go_at_call 19; refine (HN.out _ belB).mono ?_; rintro e wn ⟨rfl, hbn⟩))
    go_ret
    exact ⟨rfl, belB⟩
  rcases Nat.lt_or_ge 3000 ad.size with had | had
  · go_enter Tryz.func4, Tryz.ntmps4
    go_wp2_with (first | (go_at_call 18; refine (HS.out _ belB).mono ?_; rintro e wh ⟨rfl, hbh⟩) | (go_at_call 19; refine (HN.out _ belB).mono ?_; rintro e wn ⟨rfl, hbn⟩))
    go_ret
    exact ⟨rfl, belB⟩
  go_enter Tryz.func4, Tryz.ntmps4
  go_upto_region 3 with (first | (go_at_call 18; refine (HS.out _ belB).mono ?_; rintro e wh ⟨rfl, hbh⟩))
  go_wp2_with fail
  refine (gap_any p A n c bs wh (by omega) (HR.out.keep hbh) (.inl h10) H3.out (HE.out.keep hbh) (HT.out.keep hbh)).mono ?_
  rintro e w1 ⟨s, is, er, rfl, hr, hb1⟩
  replace hb1 := bstep hbh hb1
  clear hbh
  rcases hr with ⟨_, rfl, rfl, rfl⟩ | ⟨_, rfl, hg, hz⟩
  · go_wp2_with (first | (go_at_call 19; refine (HN.out _ belB).mono ?_; rintro e wn ⟨rfl, hbn⟩))
    go_ret
    exact ⟨rfl, belB⟩
  have HZ := Lib.hid hz
  clear hz
  cases is
  · have hm0 := gap_not hg ad
    have hm : ∀ q : ByteArray, q.size ≤ 300 → ∀ W, Below w.heap.size w W → Calls Tryz.prog 21 #[.string q, .string ad] W (Ret W (.bool (matchB q ad))) := fun q hq W hb => match_any q ad W (by omega) (by omega) (HE.out.keep hb)
    obtain ⟨f, hf⟩ : ∃ f : ByteArray → Bool, f = fun q => matchB q ad := ⟨_, rfl⟩
    replace hm : ∀ q : ByteArray, q.size ≤ 300 → ∀ W, Below w.heap.size w W → Calls Tryz.prog 21 #[.string q, .string ad] W (Ret W (.bool (f q))) := fun q hq W hb => by rw [hf]; exact hm q hq W hb
    have hfin : f p = true → bs.any f = true := by
      rw [hf]
      intro h
      obtain ⟨q, hq, h2⟩ := hm0 h
      exact List.any_eq_true.2 ⟨q, hq, h2⟩
    have HM := Lib.hid hm; have HFI := Lib.hid hfin
    clear hm hfin hm0 hg hf
    go_wp2
    go_loopw [10, 11] (fun mv iv wr => ∃ k : Nat, k ≤ n ∧ iv = .int .i64 k ∧ MSt f bs k mv ∧ Below w.heap.size w wr) (fun _ iv _ => n - (intOf iv).toNat)
    case atStart => exact ⟨0, by omega, rfl, rfl, hb1⟩
    case round =>
      obtain ⟨k, hk, rfl, hms, hb⟩ := hrel
      clear hb1
      by_cases hlt : k < n
      · obtain ⟨b, o, u, rfl, hu, hcell⟩ := (HR.out.keep hb).at_ hlt
        obtain ⟨x, hx, rfl⟩ := strs_at hu
        have hk0 : (0 : Int) ≤ (k : Int) := by omega
        have hk1 : (k : Int) < (n : Int) := by omega
        have hx3 := H3.out x (List.mem_of_getElem? hx)
        have hst := any_take_step f bs k x hx
        have HC := Lib.hid (HM.out x hx3)
        clear hu hx hx3
        unfold MSt at hms
        cases hmv : (bs.take k).any f
        · rw [hmv] at hms hst
          subst hms
          rw [Bool.false_or] at hst
          have HST := Lib.hid hst
          clear hst hmv
          generalize f x = v at *
          go_wp2_with (go_at_call 21; refine (HC.out _ hb).mono ?_; rintro e wm ⟨rfl, hbm⟩)
          exact ⟨⟨k + 1, by omega, by go_num, (congrArg Value.bool HST.out).symm, bstep hb hbm⟩, by simp [intOf]; omega⟩
        · rw [hmv] at hms hst
          subst hms
          rw [Bool.true_or] at hst
          have HST := Lib.hid hst
          clear hst hmv HC
          go_wp2
          exact ⟨⟨k + 1, by omega, by go_num, (congrArg Value.bool HST.out).symm, hb⟩, by simp [intOf]; omega⟩
      · have hall : (bs.take k).any f = bs.any f := by rw [List.take_of_length_le (by have := HL.out; omega)]
        unfold MSt at hms
        rw [hall] at hms
        clear hall
        have HP := Lib.hid (HM.out p hp3)
        have hfin := HFI.out
        clear HM HFI
        generalize f p = v1 at *
        generalize bs.any f = v2 at *
        subst hms
        cases v1
        · clear hfin
          go_wp2_with (first | (go_at_call 19; refine (HN.out _ belB).mono ?_; rintro e wn ⟨rfl, hbn⟩) | (go_at_call 21; refine (HP.out _ belB).mono ?_; rintro e wm ⟨rfl, hbm⟩))
          go_ret
          exact ⟨rfl, belB⟩
        · obtain rfl := hfin rfl
          clear hfin
          go_wp2_with (first | (go_at_call 19; refine (HN.out _ belB).mono ?_; rintro e wn ⟨rfl, hbn⟩) | (go_at_call 21; refine (HP.out _ belB).mono ?_; rintro e wm ⟨rfl, hbm⟩))
          go_ret
          exact ⟨rfl, belB⟩
  · obtain ⟨hm1, hm2⟩ := gap_found hg
    have hm : ∀ q : ByteArray, q.size ≤ 300 → ∀ W, Below w.heap.size w W → Calls Tryz.prog 21 #[.string q, .string s] W (Ret W (.bool (matchB q s))) := fun q hq W hb => match_any q s W (by omega) (by have := HZ.out; omega) (HE.out.keep hb)
    obtain ⟨f, hf⟩ : ∃ f : ByteArray → Bool, f = fun q => matchB q s := ⟨_, rfl⟩
    replace hm : ∀ q : ByteArray, q.size ≤ 300 → ∀ W, Below w.heap.size w W → Calls Tryz.prog 21 #[.string q, .string s] W (Ret W (.bool (f q))) := fun q hq W hb => by rw [hf]; exact hm q hq W hb
    have hf1 : f p = true := by rw [hf]; exact hm1
    have hf2 : bs.any f = false := by rw [hf, List.any_eq_false]; intro q hq; rw [hm2 q hq]; decide
    have HM := Lib.hid hm; have HF1 := Lib.hid hf1; have HF2 := Lib.hid hf2
    clear hm hf1 hf2 hm1 hm2 hg hf
    go_wp2
    go_loopw [10, 11] (fun mv iv wr => ∃ k : Nat, k ≤ n ∧ iv = .int .i64 k ∧ MSt f bs k mv ∧ Below w.heap.size w wr) (fun _ iv _ => n - (intOf iv).toNat)
    case atStart => exact ⟨0, by omega, rfl, rfl, hb1⟩
    case round =>
      obtain ⟨k, hk, rfl, hms, hb⟩ := hrel
      clear hb1
      by_cases hlt : k < n
      · obtain ⟨b, o, u, rfl, hu, hcell⟩ := (HR.out.keep hb).at_ hlt
        obtain ⟨x, hx, rfl⟩ := strs_at hu
        have hk0 : (0 : Int) ≤ (k : Int) := by omega
        have hk1 : (k : Int) < (n : Int) := by omega
        have hx3 := H3.out x (List.mem_of_getElem? hx)
        have hst := any_take_step f bs k x hx
        have HC := Lib.hid (HM.out x hx3)
        clear hu hx hx3
        unfold MSt at hms
        cases hmv : (bs.take k).any f
        · rw [hmv] at hms hst
          subst hms
          rw [Bool.false_or] at hst
          have HST := Lib.hid hst
          clear hst hmv
          generalize f x = v at *
          go_wp2_with (go_at_call 21; refine (HC.out _ hb).mono ?_; rintro e wm ⟨rfl, hbm⟩)
          exact ⟨⟨k + 1, by omega, by go_num, (congrArg Value.bool HST.out).symm, bstep hb hbm⟩, by simp [intOf]; omega⟩
        · rw [hmv] at hms hst
          subst hms
          rw [Bool.true_or] at hst
          have HST := Lib.hid hst
          clear hst hmv HC
          go_wp2
          exact ⟨⟨k + 1, by omega, by go_num, (congrArg Value.bool HST.out).symm, hb⟩, by simp [intOf]; omega⟩
      · have hall : (bs.take k).any f = bs.any f := by rw [List.take_of_length_le (by have := HL.out; omega)]
        unfold MSt at hms
        rw [hall] at hms
        clear hall
        rw [HF2.out] at hms
        subst hms
        have hp9 := HM.out p hp3
        rw [HF1.out] at hp9
        have HP := Lib.hid hp9
        clear HM HF1 HF2 hp9
        go_wp2_with (first | (go_at_call 19; refine (HN.out _ belB).mono ?_; rintro e wn ⟨rfl, hbn⟩) | (go_at_call 21; refine (HP.out _ belB).mono ?_; rintro e wm ⟨rfl, hbm⟩))
        go_ret
        exact ⟨rfl, belB⟩
end Go.Proofs.YtjhlpkhfdghngaaGreatDoor
