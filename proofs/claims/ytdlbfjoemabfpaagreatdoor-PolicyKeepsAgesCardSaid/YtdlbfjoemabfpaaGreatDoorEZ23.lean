/- The reference's Valid of a rule (given what names returns). -/
import Derived.Test.YtdlbfjoemabfpaaGreatDoorEZ21
import Derived.Test.YtdlbfjoemabfpaaGreatDoorEZ15
import Derived.Test.YtdlbfjoemabfpaaGreatDoorEZ22
import Derived.Test.YtdlbfjoemabfpaaGreatDoorEZ10
import Derived.Test.YtdlbfjoemabfpaaGreatDoorEZ14
import Derived.Deep.DeepCutAuto
import Derived.Test.YtdlbfjoemabfpaaGreatDoorProg
import Derived.WalkKit
import Derived.WalkSpells
import Derived.WalkLawsBesides
import Derived.Below
import Derived.Deep.QuietTactic
import Derived.BigQuiet
import Derived.Lib.QuietBelow
import Derived.Lib.Strings
import Derived.Lib.Hide
import Derived.Deep.RegionWith
import Derived.Deep.RegionHeld3
import Derived.Lib.IndexBytes
import Derived.Test.YtdlbfjoemabfpaaGreatDoorEZ11
import Derived.KernelRfl
import Derived.Test.YtdlbfjoemabfpaaGreatDoorEZ17
import Derived.Test.YtdlbfjoemabfpaaGreatDoorEZ9
namespace Go.Proofs.YtdlbfjoemabfpaaGreatDoor
open Go.RowKit Go.Sort
set_option linter.unusedVariables false
set_option linter.unusedSimpArgs false
set_option maxRecDepth 100000
theorem rSpan22_any (n : Int) (w : World) : Calls Tryz.prog 54 #[.int .i64 n] w (Ret w (.bool (spanB n))) := by
  unfold spanB
  by_cases h0 : 0 ≤ n
  · go_enter Tryz.func54, Tryz.ntmps54
    go_wp2
    go_ret
    exact ⟨by simp [h0], belB⟩
  · go_enter Tryz.func54, Tryz.ntmps54
    go_wp2
    go_ret
    exact ⟨by simp [h0]; intros; omega, belB⟩
theorem box_facts {W : World} {g : Nat} {x : RuleM} (h : RowV W g 33 x.cells) : W.cell? ⟨g, 0, none⟩ = some (.string x.r.name) ∧ W.cell? ⟨g, 1, none⟩ = some (.string x.r.pat) ∧ W.cell? ⟨g, 2, none⟩ = some (.slice x.T x.r.tags.length x.ct) ∧ W.cell? ⟨g, 3, none⟩ = some (.int .i64 x.r.fresh) ∧ W.cell? ⟨g, 4, none⟩ = some (.int .i64 x.r.stale) ∧ W.cell? ⟨g, 5, none⟩ = some (.int .i64 x.r.down) ∧ W.cell? ⟨g, 6, none⟩ = some (.int .i64 x.r.neg) ∧ W.cell? ⟨g, 7, none⟩ = some (.slice x.V x.r.vary.length x.cv) ∧ W.cell? ⟨g, 8, none⟩ = some (.int .i64 x.r.allow.fr) ∧ W.cell? ⟨g, 9, none⟩ = some (.int .i64 x.r.allow.till) ∧ W.cell? ⟨g, 10, none⟩ = some (.string x.r.allow.pat) ∧ W.cell? ⟨g, 11, none⟩ = some (.slice x.m.A x.r.allow.cl.length x.m.ca) ∧ W.cell? ⟨g, 12, none⟩ = some (.slice x.m.B x.r.allow.co.length x.m.cb) ∧ W.cell? ⟨g, 13, none⟩ = some (.slice x.m.S x.r.allow.si.length x.m.cs) ∧ W.cell? ⟨g, 14, none⟩ = some (.int .i64 x.r.allow.us) ∧ W.cell? ⟨g, 15, none⟩ = some (.bool x.r.signed) ∧ W.cell? ⟨g, 16, none⟩ = some (.int .i64 x.r.cost) ∧ W.cell? ⟨g, 17, none⟩ = some (.string x.r.prog) :=
  ⟨RowV.cell h rfl, RowV.cell h rfl, RowV.cell h rfl, RowV.cell h rfl, RowV.cell h rfl, RowV.cell h rfl, RowV.cell h rfl, RowV.cell h rfl, RowV.cell h rfl, RowV.cell h rfl, RowV.cell h rfl, RowV.cell h rfl, RowV.cell h rfl, RowV.cell h rfl, RowV.cell h rfl, RowV.cell h rfl, RowV.cell h rfl, RowV.cell h rfl⟩
set_option maxHeartbeats 8000000 in
theorem rValid22_of (x : RuleM) (w : World) (hR : RuleReads w x) (hf : RuleFits x.r)
    (cC : ∀ W, Below w.heap.size w W → Calls Tryz.prog 52 #[.slice x.T x.r.tags.length x.ct] W (Ret W (.bool (namesA x.r.tags)))) :
    Calls Tryz.prog 12 #[x.val] w (Ret w (.bool (validR x.r))) := by
  have cA := fun W => rName_any x.r.name W (by have := hf.name; omega)
  have cB := fun W => rValid_any x.r.pat W (by have := hf.pat; omega)
  have cD := fun W (hb : Below w.heap.size w W) => rValid21_any x.r.allow x.m W (hR.allow.keep hb) hf.c.p hf.c.cl hf.c.co hf.c.n1 hf.c.n2 hf.c.n3
  have HS := Lib.hid (fun (n : Int) (W : World) => rSpan22_any n W)
  obtain ⟨V, hV⟩ : ∃ V, V = validR x.r := ⟨_, rfl⟩
  rw [← hV]
  unfold validR at hV
  rw [RuleM.val_eq]
  unfold CondMem.val at cD
  generalize isNameB x.r.name = a1 at *
  generalize (compileB x.r.pat).isSome = a2 at *
  generalize namesA x.r.tags = a3 at *
  generalize validC x.r.allow = a4 at *
  clear hR hf
  cases a1
  · obtain rfl : V = false := by rw [hV]; simp
    have HA := Lib.hid cA
    clear hV cA cB cC cD
    go_enter Tryz.func12, Tryz.ntmps12
    go_wp2_with (first | (go_at_call 50; refine (HA.out _).mono ?_; rintro e w2 ⟨rfl, hb2⟩; have R2 : RowV w2 w.heap.size 33 x.cells := RowV.keep (RowV.new w 33 x.cells) hb2; obtain ⟨y0, y1, y2, y3, y4, y5, y6, y7, y8, y9, y10, y11, y12, y13, y14, y15, y16, y17⟩ := box_facts R2))
    go_ret
    exact ⟨rfl, belB⟩
  have HA := Lib.hid cA
  clear cA
  cases a2
  · obtain rfl : V = false := by rw [hV]; simp
    have HB := Lib.hid cB
    clear hV cB cC cD
    go_enter Tryz.func12, Tryz.ntmps12
    go_wp2_with (first | (go_at_call 50; refine (HA.out _).mono ?_; rintro e w2 ⟨rfl, hb2⟩; have R2 : RowV w2 w.heap.size 33 x.cells := RowV.keep (RowV.new w 33 x.cells) hb2; obtain ⟨y0, y1, y2, y3, y4, y5, y6, y7, y8, y9, y10, y11, y12, y13, y14, y15, y16, y17⟩ := box_facts R2) | (go_at_call 51; refine (HB.out _).mono ?_; rintro e w3 ⟨rfl, hb3⟩; have R3 : RowV w3 w.heap.size 33 x.cells := RowV.keep R2 hb3; clear y0 y1 y2 y3 y4 y5 y6 y7 y8 y9 y10 y11 y12 y13 y14 y15 y16 y17; obtain ⟨y0, y1, y2, y3, y4, y5, y6, y7, y8, y9, y10, y11, y12, y13, y14, y15, y16, y17⟩ := box_facts R3))
    go_ret
    exact ⟨rfl, belB⟩
  have HB := Lib.hid cB
  clear cB
  cases a3
  · obtain rfl : V = false := by rw [hV]; simp
    have HC := Lib.hid cC
    clear hV cC cD
    go_enter Tryz.func12, Tryz.ntmps12
    go_wp2_with (first | (go_at_call 50; refine (HA.out _).mono ?_; rintro e w2 ⟨rfl, hb2⟩; have R2 : RowV w2 w.heap.size 33 x.cells := RowV.keep (RowV.new w 33 x.cells) hb2; obtain ⟨y0, y1, y2, y3, y4, y5, y6, y7, y8, y9, y10, y11, y12, y13, y14, y15, y16, y17⟩ := box_facts R2) | (go_at_call 51; refine (HB.out _).mono ?_; rintro e w3 ⟨rfl, hb3⟩; have R3 : RowV w3 w.heap.size 33 x.cells := RowV.keep R2 hb3; clear y0 y1 y2 y3 y4 y5 y6 y7 y8 y9 y10 y11 y12 y13 y14 y15 y16 y17; obtain ⟨y0, y1, y2, y3, y4, y5, y6, y7, y8, y9, y10, y11, y12, y13, y14, y15, y16, y17⟩ := box_facts R3) | (go_at_call 52; refine (HC.out _ belB).mono ?_; rintro e w4 ⟨rfl, hb4⟩; have R4 : RowV w4 w.heap.size 33 x.cells := RowV.keep R3 hb4; clear y0 y1 y2 y3 y4 y5 y6 y7 y8 y9 y10 y11 y12 y13 y14 y15 y16 y17; obtain ⟨y0, y1, y2, y3, y4, y5, y6, y7, y8, y9, y10, y11, y12, y13, y14, y15, y16, y17⟩ := box_facts R4))
    go_ret
    exact ⟨rfl, belB⟩
  have HC := Lib.hid cC
  clear cC
  cases a4
  · obtain rfl : V = false := by rw [hV]; simp
    have HD := Lib.hid cD
    clear hV cD
    go_enter Tryz.func12, Tryz.ntmps12
    go_wp2_with (first | (go_at_call 50; refine (HA.out _).mono ?_; rintro e w2 ⟨rfl, hb2⟩; have R2 : RowV w2 w.heap.size 33 x.cells := RowV.keep (RowV.new w 33 x.cells) hb2; obtain ⟨y0, y1, y2, y3, y4, y5, y6, y7, y8, y9, y10, y11, y12, y13, y14, y15, y16, y17⟩ := box_facts R2) | (go_at_call 51; refine (HB.out _).mono ?_; rintro e w3 ⟨rfl, hb3⟩; have R3 : RowV w3 w.heap.size 33 x.cells := RowV.keep R2 hb3; clear y0 y1 y2 y3 y4 y5 y6 y7 y8 y9 y10 y11 y12 y13 y14 y15 y16 y17; obtain ⟨y0, y1, y2, y3, y4, y5, y6, y7, y8, y9, y10, y11, y12, y13, y14, y15, y16, y17⟩ := box_facts R3) | (go_at_call 52; refine (HC.out _ belB).mono ?_; rintro e w4 ⟨rfl, hb4⟩; have R4 : RowV w4 w.heap.size 33 x.cells := RowV.keep R3 hb4; clear y0 y1 y2 y3 y4 y5 y6 y7 y8 y9 y10 y11 y12 y13 y14 y15 y16 y17; obtain ⟨y0, y1, y2, y3, y4, y5, y6, y7, y8, y9, y10, y11, y12, y13, y14, y15, y16, y17⟩ := box_facts R4) | (go_at_call 53; refine (HD.out _ belB).mono ?_; rintro e w5 ⟨rfl, hb5⟩; have R5 : RowV w5 w.heap.size 33 x.cells := RowV.keep R4 hb5; clear y0 y1 y2 y3 y4 y5 y6 y7 y8 y9 y10 y11 y12 y13 y14 y15 y16 y17; obtain ⟨y0, y1, y2, y3, y4, y5, y6, y7, y8, y9, y10, y11, y12, y13, y14, y15, y16, y17⟩ := box_facts R5))
    go_ret
    exact ⟨rfl, belB⟩
  have HD := Lib.hid cD
  clear cD
  cases cE : spanB x.r.fresh
  · obtain rfl : V = false := by rw [hV, cE]; simp
    have HE := Lib.hid cE
    clear hV cE
    go_enter Tryz.func12, Tryz.ntmps12
    go_wp2_with (first | (go_at_call 50; refine (HA.out _).mono ?_; rintro e w2 ⟨rfl, hb2⟩; have R2 : RowV w2 w.heap.size 33 x.cells := RowV.keep (RowV.new w 33 x.cells) hb2; obtain ⟨y0, y1, y2, y3, y4, y5, y6, y7, y8, y9, y10, y11, y12, y13, y14, y15, y16, y17⟩ := box_facts R2) | (go_at_call 51; refine (HB.out _).mono ?_; rintro e w3 ⟨rfl, hb3⟩; have R3 : RowV w3 w.heap.size 33 x.cells := RowV.keep R2 hb3; clear y0 y1 y2 y3 y4 y5 y6 y7 y8 y9 y10 y11 y12 y13 y14 y15 y16 y17; obtain ⟨y0, y1, y2, y3, y4, y5, y6, y7, y8, y9, y10, y11, y12, y13, y14, y15, y16, y17⟩ := box_facts R3) | (go_at_call 52; refine (HC.out _ belB).mono ?_; rintro e w4 ⟨rfl, hb4⟩; have R4 : RowV w4 w.heap.size 33 x.cells := RowV.keep R3 hb4; clear y0 y1 y2 y3 y4 y5 y6 y7 y8 y9 y10 y11 y12 y13 y14 y15 y16 y17; obtain ⟨y0, y1, y2, y3, y4, y5, y6, y7, y8, y9, y10, y11, y12, y13, y14, y15, y16, y17⟩ := box_facts R4) | (go_at_call 53; refine (HD.out _ belB).mono ?_; rintro e w5 ⟨rfl, hb5⟩; have R5 : RowV w5 w.heap.size 33 x.cells := RowV.keep R4 hb5; clear y0 y1 y2 y3 y4 y5 y6 y7 y8 y9 y10 y11 y12 y13 y14 y15 y16 y17; obtain ⟨y0, y1, y2, y3, y4, y5, y6, y7, y8, y9, y10, y11, y12, y13, y14, y15, y16, y17⟩ := box_facts R5) | (go_at_call 54; refine (HS.out _ _).mono ?_; rintro e w6 ⟨rfl, hb6⟩; replace R5 := RowV.keep R5 hb6; clear y0 y1 y2 y3 y4 y5 y6 y7 y8 y9 y10 y11 y12 y13 y14 y15 y16 y17; obtain ⟨y0, y1, y2, y3, y4, y5, y6, y7, y8, y9, y10, y11, y12, y13, y14, y15, y16, y17⟩ := box_facts R5; try simp only [HE.out]))
    go_ret
    exact ⟨rfl, belB⟩
  have HE := Lib.hid cE
  rw [cE] at hV
  clear cE
  cases cF : spanB x.r.stale
  · obtain rfl : V = false := by rw [hV, cF]; simp
    have HF := Lib.hid cF
    clear hV cF
    go_enter Tryz.func12, Tryz.ntmps12
    go_wp2_with (first | (go_at_call 50; refine (HA.out _).mono ?_; rintro e w2 ⟨rfl, hb2⟩; have R2 : RowV w2 w.heap.size 33 x.cells := RowV.keep (RowV.new w 33 x.cells) hb2; obtain ⟨y0, y1, y2, y3, y4, y5, y6, y7, y8, y9, y10, y11, y12, y13, y14, y15, y16, y17⟩ := box_facts R2) | (go_at_call 51; refine (HB.out _).mono ?_; rintro e w3 ⟨rfl, hb3⟩; have R3 : RowV w3 w.heap.size 33 x.cells := RowV.keep R2 hb3; clear y0 y1 y2 y3 y4 y5 y6 y7 y8 y9 y10 y11 y12 y13 y14 y15 y16 y17; obtain ⟨y0, y1, y2, y3, y4, y5, y6, y7, y8, y9, y10, y11, y12, y13, y14, y15, y16, y17⟩ := box_facts R3) | (go_at_call 52; refine (HC.out _ belB).mono ?_; rintro e w4 ⟨rfl, hb4⟩; have R4 : RowV w4 w.heap.size 33 x.cells := RowV.keep R3 hb4; clear y0 y1 y2 y3 y4 y5 y6 y7 y8 y9 y10 y11 y12 y13 y14 y15 y16 y17; obtain ⟨y0, y1, y2, y3, y4, y5, y6, y7, y8, y9, y10, y11, y12, y13, y14, y15, y16, y17⟩ := box_facts R4) | (go_at_call 53; refine (HD.out _ belB).mono ?_; rintro e w5 ⟨rfl, hb5⟩; have R5 : RowV w5 w.heap.size 33 x.cells := RowV.keep R4 hb5; clear y0 y1 y2 y3 y4 y5 y6 y7 y8 y9 y10 y11 y12 y13 y14 y15 y16 y17; obtain ⟨y0, y1, y2, y3, y4, y5, y6, y7, y8, y9, y10, y11, y12, y13, y14, y15, y16, y17⟩ := box_facts R5) | (go_at_call 54; refine (HS.out _ _).mono ?_; rintro e w6 ⟨rfl, hb6⟩; replace R5 := RowV.keep R5 hb6; clear y0 y1 y2 y3 y4 y5 y6 y7 y8 y9 y10 y11 y12 y13 y14 y15 y16 y17; obtain ⟨y0, y1, y2, y3, y4, y5, y6, y7, y8, y9, y10, y11, y12, y13, y14, y15, y16, y17⟩ := box_facts R5; try simp only [HE.out, HF.out]))
    go_ret
    exact ⟨rfl, belB⟩
  have HF := Lib.hid cF
  rw [cF] at hV
  clear cF
  cases cG : spanB x.r.down
  · obtain rfl : V = false := by rw [hV, cG]; simp
    have HG := Lib.hid cG
    clear hV cG
    go_enter Tryz.func12, Tryz.ntmps12
    go_wp2_with (first | (go_at_call 50; refine (HA.out _).mono ?_; rintro e w2 ⟨rfl, hb2⟩; have R2 : RowV w2 w.heap.size 33 x.cells := RowV.keep (RowV.new w 33 x.cells) hb2; obtain ⟨y0, y1, y2, y3, y4, y5, y6, y7, y8, y9, y10, y11, y12, y13, y14, y15, y16, y17⟩ := box_facts R2) | (go_at_call 51; refine (HB.out _).mono ?_; rintro e w3 ⟨rfl, hb3⟩; have R3 : RowV w3 w.heap.size 33 x.cells := RowV.keep R2 hb3; clear y0 y1 y2 y3 y4 y5 y6 y7 y8 y9 y10 y11 y12 y13 y14 y15 y16 y17; obtain ⟨y0, y1, y2, y3, y4, y5, y6, y7, y8, y9, y10, y11, y12, y13, y14, y15, y16, y17⟩ := box_facts R3) | (go_at_call 52; refine (HC.out _ belB).mono ?_; rintro e w4 ⟨rfl, hb4⟩; have R4 : RowV w4 w.heap.size 33 x.cells := RowV.keep R3 hb4; clear y0 y1 y2 y3 y4 y5 y6 y7 y8 y9 y10 y11 y12 y13 y14 y15 y16 y17; obtain ⟨y0, y1, y2, y3, y4, y5, y6, y7, y8, y9, y10, y11, y12, y13, y14, y15, y16, y17⟩ := box_facts R4) | (go_at_call 53; refine (HD.out _ belB).mono ?_; rintro e w5 ⟨rfl, hb5⟩; have R5 : RowV w5 w.heap.size 33 x.cells := RowV.keep R4 hb5; clear y0 y1 y2 y3 y4 y5 y6 y7 y8 y9 y10 y11 y12 y13 y14 y15 y16 y17; obtain ⟨y0, y1, y2, y3, y4, y5, y6, y7, y8, y9, y10, y11, y12, y13, y14, y15, y16, y17⟩ := box_facts R5) | (go_at_call 54; refine (HS.out _ _).mono ?_; rintro e w6 ⟨rfl, hb6⟩; replace R5 := RowV.keep R5 hb6; clear y0 y1 y2 y3 y4 y5 y6 y7 y8 y9 y10 y11 y12 y13 y14 y15 y16 y17; obtain ⟨y0, y1, y2, y3, y4, y5, y6, y7, y8, y9, y10, y11, y12, y13, y14, y15, y16, y17⟩ := box_facts R5; try simp only [HE.out, HF.out, HG.out]))
    go_ret
    exact ⟨rfl, belB⟩
  have HG := Lib.hid cG
  rw [cG] at hV
  clear cG
  cases cH : spanB x.r.neg
  · obtain rfl : V = false := by rw [hV, cH]; simp
    have HH := Lib.hid cH
    clear hV cH
    go_enter Tryz.func12, Tryz.ntmps12
    go_wp2_with (first | (go_at_call 50; refine (HA.out _).mono ?_; rintro e w2 ⟨rfl, hb2⟩; have R2 : RowV w2 w.heap.size 33 x.cells := RowV.keep (RowV.new w 33 x.cells) hb2; obtain ⟨y0, y1, y2, y3, y4, y5, y6, y7, y8, y9, y10, y11, y12, y13, y14, y15, y16, y17⟩ := box_facts R2) | (go_at_call 51; refine (HB.out _).mono ?_; rintro e w3 ⟨rfl, hb3⟩; have R3 : RowV w3 w.heap.size 33 x.cells := RowV.keep R2 hb3; clear y0 y1 y2 y3 y4 y5 y6 y7 y8 y9 y10 y11 y12 y13 y14 y15 y16 y17; obtain ⟨y0, y1, y2, y3, y4, y5, y6, y7, y8, y9, y10, y11, y12, y13, y14, y15, y16, y17⟩ := box_facts R3) | (go_at_call 52; refine (HC.out _ belB).mono ?_; rintro e w4 ⟨rfl, hb4⟩; have R4 : RowV w4 w.heap.size 33 x.cells := RowV.keep R3 hb4; clear y0 y1 y2 y3 y4 y5 y6 y7 y8 y9 y10 y11 y12 y13 y14 y15 y16 y17; obtain ⟨y0, y1, y2, y3, y4, y5, y6, y7, y8, y9, y10, y11, y12, y13, y14, y15, y16, y17⟩ := box_facts R4) | (go_at_call 53; refine (HD.out _ belB).mono ?_; rintro e w5 ⟨rfl, hb5⟩; have R5 : RowV w5 w.heap.size 33 x.cells := RowV.keep R4 hb5; clear y0 y1 y2 y3 y4 y5 y6 y7 y8 y9 y10 y11 y12 y13 y14 y15 y16 y17; obtain ⟨y0, y1, y2, y3, y4, y5, y6, y7, y8, y9, y10, y11, y12, y13, y14, y15, y16, y17⟩ := box_facts R5) | (go_at_call 54; refine (HS.out _ _).mono ?_; rintro e w6 ⟨rfl, hb6⟩; replace R5 := RowV.keep R5 hb6; clear y0 y1 y2 y3 y4 y5 y6 y7 y8 y9 y10 y11 y12 y13 y14 y15 y16 y17; obtain ⟨y0, y1, y2, y3, y4, y5, y6, y7, y8, y9, y10, y11, y12, y13, y14, y15, y16, y17⟩ := box_facts R5; try simp only [HE.out, HF.out, HG.out, HH.out]))
    go_ret
    exact ⟨rfl, belB⟩
  have HH := Lib.hid cH
  rw [cH] at hV
  clear cH
  replace hV : V = (decide (x.r.vary.length ≤ 8) && decide (0 ≤ x.r.cost) && decide (x.r.cost ≤ 1073741824) && decide (x.r.prog.size ≤ 64)) := by rw [hV]; simp
  have HV := Lib.hid hV
  clear hV
  go_enter Tryz.func12, Tryz.ntmps12
  go_upto_region 5 with (first | (go_at_call 50; refine (HA.out _).mono ?_; rintro e w2 ⟨rfl, hb2⟩; have R2 : RowV w2 w.heap.size 33 x.cells := RowV.keep (RowV.new w 33 x.cells) hb2; obtain ⟨y0, y1, y2, y3, y4, y5, y6, y7, y8, y9, y10, y11, y12, y13, y14, y15, y16, y17⟩ := box_facts R2) | (go_at_call 51; refine (HB.out _).mono ?_; rintro e w3 ⟨rfl, hb3⟩; have R3 : RowV w3 w.heap.size 33 x.cells := RowV.keep R2 hb3; clear y0 y1 y2 y3 y4 y5 y6 y7 y8 y9 y10 y11 y12 y13 y14 y15 y16 y17; obtain ⟨y0, y1, y2, y3, y4, y5, y6, y7, y8, y9, y10, y11, y12, y13, y14, y15, y16, y17⟩ := box_facts R3) | (go_at_call 52; refine (HC.out _ belB).mono ?_; rintro e w4 ⟨rfl, hb4⟩; have R4 : RowV w4 w.heap.size 33 x.cells := RowV.keep R3 hb4; clear y0 y1 y2 y3 y4 y5 y6 y7 y8 y9 y10 y11 y12 y13 y14 y15 y16 y17; obtain ⟨y0, y1, y2, y3, y4, y5, y6, y7, y8, y9, y10, y11, y12, y13, y14, y15, y16, y17⟩ := box_facts R4) | (go_at_call 53; refine (HD.out _ belB).mono ?_; rintro e w5 ⟨rfl, hb5⟩; have R5 : RowV w5 w.heap.size 33 x.cells := RowV.keep R4 hb5; clear y0 y1 y2 y3 y4 y5 y6 y7 y8 y9 y10 y11 y12 y13 y14 y15 y16 y17; obtain ⟨y0, y1, y2, y3, y4, y5, y6, y7, y8, y9, y10, y11, y12, y13, y14, y15, y16, y17⟩ := box_facts R5) | (go_at_call 54; refine (HS.out _ _).mono ?_; rintro e w6 ⟨rfl, hb6⟩; replace R5 := RowV.keep R5 hb6; clear y0 y1 y2 y3 y4 y5 y6 y7 y8 y9 y10 y11 y12 y13 y14 y15 y16 y17; obtain ⟨y0, y1, y2, y3, y4, y5, y6, y7, y8, y9, y10, y11, y12, y13, y14, y15, y16, y17⟩ := box_facts R5; try simp only [HE.out, HF.out, HG.out, HH.out]))
  have hbE : Below w.heap.size w w6 := belB
  clear y0 y1 y2 y3 y4 y5 y6 y8 y9 y10 y11 y12 y13 y14 y15 R5
  have hV := HV.out
  clear HV HA HB HC HD HE HF HG HH HS
  by_cases t3 : x.r.vary.length ≤ 8
  rotate_left
  · obtain rfl : V = false := by rw [hV]; simp only [decide_eq_false t3]; simp
    have d3 : decide ((x.r.vary.length : Int) ≤ 8) = false := decide_eq_false (by omega)
    clear hV
    go_wp2
    go_ret
    exact ⟨rfl, hbE⟩
  have d3 : decide ((x.r.vary.length : Int) ≤ 8) = true := decide_eq_true (by omega)
  by_cases t4 : 0 ≤ x.r.cost
  rotate_left
  · obtain rfl : V = false := by rw [hV]; simp only [decide_eq_false t4]; simp
    have d4 : decide (0 ≤ x.r.cost) = false := decide_eq_false t4
    clear hV
    go_wp2
    go_ret
    exact ⟨rfl, hbE⟩
  have d4 : decide (0 ≤ x.r.cost) = true := decide_eq_true t4
  by_cases t5 : x.r.cost ≤ 1073741824
  rotate_left
  · obtain rfl : V = false := by rw [hV]; simp only [decide_eq_false t5]; simp
    have d5 : decide (x.r.cost ≤ 1073741824) = false := decide_eq_false t5
    clear hV
    go_wp2
    go_ret
    exact ⟨rfl, hbE⟩
  have d5 : decide (x.r.cost ≤ 1073741824) = true := decide_eq_true t5
  by_cases t6 : x.r.prog.size ≤ 64
  · obtain rfl : V = true := by rw [hV, decide_eq_true t3, d4, d5, decide_eq_true t6]; rfl
    have d6 : decide ((x.r.prog.size : Int) ≤ 64) = true := decide_eq_true (by omega)
    clear hV
    go_wp2
    go_ret
    exact ⟨rfl, hbE⟩
  · obtain rfl : V = false := by rw [hV]; simp only [decide_eq_false t6]; simp
    have d6 : decide ((x.r.prog.size : Int) ≤ 64) = false := decide_eq_false (by omega)
    clear hV
    go_wp2
    go_ret
    exact ⟨rfl, hbE⟩
end Go.Proofs.YtdlbfjoemabfpaaGreatDoor
namespace Go.Proofs.YtdlbfjoemabfpaaGreatDoor
open Go.RowKit Go.Sort
set_option linter.unusedVariables false
set_option linter.unusedSimpArgs false
set_option maxRecDepth 100000
def bothP (p q : ByteArray) : Option (Option Pat) := match compileB p, compileB q with
  | some x, some y => some (commonP x y)
  | _, _ => none
def BothPost (r : Option (Option Pat)) (w : World) (e : Ending) (w' : World) : Prop :=
  Below w.heap.size w w' ∧ match r with
  | none => ∃ (k : Nat) (t : ByteArray) (A : Option Addr) (n c : Nat) (b : Bool), e = .returned (.tuple #[.agg #[.int .i64 k, .string t, .slice A n c, .bool b], .bool false, .int .i64 1])
  | some none => ∃ (k : Nat) (t : ByteArray) (A : Option Addr) (n c : Nat) (b : Bool), e = .returned (.tuple #[.agg #[.int .i64 k, .string t, .slice A n c, .bool b], .bool false, .int .i64 0])
  | some (some p) => ∃ A c, e = .returned (.tuple #[.agg #[.int .i64 p.cust.kind, .string p.cust.text, .slice A p.parts.length c, .bool p.tail], .bool true, .int .i64 0]) ∧ Reads w' 2 A p.parts.length (partCells p.parts)
theorem BothPost.none_ {w w' : World} (k : Nat) (t : ByteArray) (A : Option Addr) (n c : Nat) (b : Bool) (hb : Below w.heap.size w w') : BothPost none w (.returned (.tuple #[.agg #[.int .i64 k, .string t, .slice A n c, .bool b], .bool false, .int .i64 1])) w' := ⟨hb, k, t, A, n, c, b, rfl⟩
end Go.Proofs.YtdlbfjoemabfpaaGreatDoor
namespace Go.Proofs.YtdlbfjoemabfpaaGreatDoor
open Go.RowKit Go.Sort
set_option linter.unusedVariables false
set_option linter.unusedSimpArgs false
set_option maxRecDepth 100000
def meetV (r : Option (Option Pat)) : Value := match r with
  | none => .tuple #[.bool false, .string ⟨#[]⟩, .int .i64 1]
  | some none => .tuple #[.bool false, .string ⟨#[]⟩, .int .i64 0]
  | some (some z) => .tuple #[.bool true, .string (joinS (withP z.cust.kind z.cust.text ⟨#[97]⟩ :: wordsL z.parts)), .int .i64 0]
end Go.Proofs.YtdlbfjoemabfpaaGreatDoor
namespace Go.Proofs.YtdlbfjoemabfpaaGreatDoor
open Go.RowKit Go.Sort
set_option linter.unusedVariables false
set_option linter.unusedSimpArgs false
set_option maxRecDepth 100000
def coversV : Option Pat → Option Pat → Value
  | some x, some y => .tuple #[.bool (coverB x y), .string (if coverB x y then ⟨#[]⟩ else coverW x y), .int .i64 0]
  | _, _ => .tuple #[.bool false, .string ⟨#[]⟩, .int .i64 1]
theorem Reads.put {w : World} {g n k : Nat} {vs : List Value} (h : Reads w 1 (some ⟨g, 0, none⟩) n vs) (hk : k < n) (v : Value) : Reads (w.setCell ⟨g, 0 + k, none⟩ v) 1 (some ⟨g, 0, none⟩) n (vs.set k v) := by
  refine ⟨by simpa using h.1, fun hn => ⟨g, 0, rfl, fun j u hu => ?_⟩⟩
  obtain ⟨b, o, he, hc⟩ := h.2 hn
  injection he with he; injection he with h1 h2 _; subst h1; subst h2
  by_cases e : k = j
  · subst e
    have hl : k < vs.length := by have := h.1; omega
    rw [List.getElem?_set_self hl] at hu
    injection hu with hu; subst hu
    exact World.cell?_setCell_same w _ v (hc k _ (List.getElem?_eq_getElem hl))
  · rw [List.getElem?_set_ne e] at hu
    exact (World.cell?_setCell_other w _ ⟨g, 0 + j, none⟩ v (by intro h; injection h with _ h _; omega)).trans (hc j u hu)
end Go.Proofs.YtdlbfjoemabfpaaGreatDoor
namespace Go.Proofs.YtdlbfjoemabfpaaGreatDoor
open Go.RowKit Go.Sort
set_option linter.unusedVariables false
set_option linter.unusedSimpArgs false
set_option maxRecDepth 100000
theorem s1 : canonV (⟨#[65, 99, 109, 101, 47, 78, 101, 119, 115, 47, 46, 47, 50, 48, 50, 54, 47, 46, 46, 47, 97, 46, 72, 84, 77, 76, 47, 63, 98, 61, 50, 38, 97, 61, 49]⟩ : ByteArray) = .tuple #[.string (⟨#[97, 99, 109, 101, 47, 110, 101, 119, 115, 47, 97, 46, 104, 116, 109, 108, 63, 97, 61, 49, 38, 98, 61, 50]⟩ : ByteArray), .int .i64 0] := by kernel_rfl
theorem s2 : matchB (⟨#[97, 99, 109, 101, 47, 110, 101, 119, 115, 47, 42, 42]⟩ : ByteArray) (⟨#[97, 99, 109, 101, 47, 110, 101, 119, 115]⟩ : ByteArray) = true := by kernel_rfl
theorem s3 : matchB (⟨#[97, 99, 109, 101, 47, 42, 47, 42, 46, 104, 116, 109, 108]⟩ : ByteArray) (⟨#[97, 99, 109, 101, 47, 110, 101, 119, 115, 47, 97, 46, 104, 116, 109, 108]⟩ : ByteArray) = true := by kernel_rfl
theorem s4 : matchB (⟨#[97, 99, 109, 101, 47, 42]⟩ : ByteArray) (⟨#[97, 99, 109, 101, 47, 97, 47, 98]⟩ : ByteArray) = false := by kernel_rfl
theorem s5 : coversV (compileB (⟨#[97, 99, 109, 101, 47, 42, 42]⟩ : ByteArray)) (compileB (⟨#[97, 99, 109, 101, 47, 42, 46, 99, 115, 115]⟩ : ByteArray)) = .tuple #[.bool true, .string ⟨#[]⟩, .int .i64 0] := by kernel_rfl
theorem s6 : coversV (compileB (⟨#[97, 99, 109, 101, 47, 42, 46, 99, 115, 115]⟩ : ByteArray)) (compileB (⟨#[97, 99, 109, 101, 47, 42]⟩ : ByteArray)) = .tuple #[.bool false, .string (⟨#[97, 99, 109, 101, 47, 97]⟩ : ByteArray), .int .i64 0] := by kernel_rfl
theorem s7 : meetV (bothP (⟨#[97, 99, 109, 101, 47, 42, 47, 98]⟩ : ByteArray) (⟨#[97, 99, 109, 101, 47, 97, 47, 42, 42]⟩ : ByteArray)) = .tuple #[.bool true, .string (⟨#[97, 99, 109, 101, 47, 97, 47, 98]⟩ : ByteArray), .int .i64 0] := by kernel_rfl
theorem sortL_of {xs ys : List (List UInt8)} (hp : ys.Perm xs) (hs : ys.Pairwise (· ≤ ·)) : sortL xs = ys := by
  have tr : ∀ a b c : List UInt8, decide (a ≤ b) = true → decide (b ≤ c) = true → decide (a ≤ c) = true := fun a b c h1 h2 => by simp only [decide_eq_true_eq] at *; exact List.le_trans h1 h2
  have tot : ∀ a b : List UInt8, (decide (a ≤ b) || decide (b ≤ a)) = true := fun a b => by simp only [Bool.or_eq_true, decide_eq_true_eq]; exact List.le_total a b
  refine List.Perm.eq_of_pairwise (le := fun a b => decide (a ≤ b) = true) (fun a b _ _ h1 h2 => ?_) (List.pairwise_mergeSort tr tot _) (hs.imp fun h => decide_eq_true h) ((List.mergeSort_perm _ _).trans hp.symm)
  simp only [decide_eq_true_eq] at h1 h2
  exact List.le_antisymm h1 h2
theorem t10 : tagsL [(⟨#[98]⟩ : ByteArray), (⟨#[97]⟩ : ByteArray), (⟨#[98]⟩ : ByteArray)] = [97, 44, 98] := by
  have h : sortL (lists [(⟨#[98]⟩ : ByteArray), (⟨#[97]⟩ : ByteArray), (⟨#[98]⟩ : ByteArray)]) = [[97], [98], [98]] := sortL_of (by decide) (by decide)
  unfold tagsL
  rw [h]
  show Lib.join (Lib.compact [[97], [98], [98]]) [44] = [97, 44, 98]
  kernel_rfl
theorem t13 : tagsL [(⟨#[97]⟩ : ByteArray), (⟨#[98]⟩ : ByteArray)] = [97, 44, 98] := by
  have h : sortL (lists [(⟨#[97]⟩ : ByteArray), (⟨#[98]⟩ : ByteArray)]) = [[97], [98]] := sortL_of (by decide) (by decide)
  unfold tagsL
  rw [h]
  show Lib.join (Lib.compact [[97], [98]]) [44] = [97, 44, 98]
  kernel_rfl
end Go.Proofs.YtdlbfjoemabfpaaGreatDoor
namespace Go.Proofs.YtdlbfjoemabfpaaGreatDoor
open Go.RowKit Go.Sort
set_option linter.unusedVariables false
set_option linter.unusedSimpArgs false
set_option maxRecDepth 100000
theorem tagsL_compact (zs : List BL) (h : zs.Pairwise (· < ·)) : Lib.compact (sortL zs) = zs := by
  have hs : sortL zs = zs := sortL_of (List.Perm.refl _) (h.imp fun h => List.le_of_lt h)
  rw [hs]
  obtain ⟨h1, h2⟩ := compact_sorted zs (h.imp fun h => List.le_of_lt h)
  exact uniq_sorted _ _ h1 h h2
end Go.Proofs.YtdlbfjoemabfpaaGreatDoor
namespace Go.Proofs.YtdlbfjoemabfpaaGreatDoor
open Go.RowKit Go.Sort
set_option linter.unusedVariables false
set_option linter.unusedSimpArgs false
set_option maxRecDepth 100000
theorem compact_one (x : BL) : Lib.compact (sortL [x]) = [x] := tagsL_compact [x] (List.pairwise_singleton _ _)
theorem tags_one (s : ByteArray) : tagsR [s] = if isNameB s then (s, 0) else (⟨#[]⟩, 1) := by
  have e : tagsL [s] = s.data.toList := by
    unfold tagsL
    show Lib.join (Lib.compact (sortL [s.data.toList])) [44] = _
    rw [compact_one, Lib.join_cons]
    simp [Lib.joinTail]
  unfold tagsR
  cases h : isNameB s
  · simp [h]
  · have hz := (word_ne (name_word h)).2.2.2
    rw [if_neg (by simp [h]), e, if_neg (by rw [← Lib.size_eq]; omega), if_pos rfl]
    exact congrArg (·, (0 : Int)) (bytes_ext (by simp [toB]))
end Go.Proofs.YtdlbfjoemabfpaaGreatDoor
namespace Go.Proofs.YtdlbfjoemabfpaaGreatDoor
open Go.RowKit Go.Sort
set_option linter.unusedVariables false
set_option linter.unusedSimpArgs false
set_option maxRecDepth 100000
set_option maxHeartbeats 4000000 in
theorem polName_any (s : ByteArray) (w : World) (hs : s.size ≤ 4294967281) (hE : Env w) : Calls Tryz.prog 45 #[.string s] w (Ret w (.bool (isNameB s))) := by
  have ht := fun W (hR : Reads W 1 (some ⟨w.heap.size, 0, none⟩) 1 ([s].map .string)) => tags_any (some ⟨w.heap.size, 0, none⟩) 1 1 [s] W hR (by simp) (by intro p hp; rw [List.mem_singleton.1 hp]; exact hs)
  have hr : Reads (w.alloc (.cells #[.string s] 9)) 1 (some ⟨w.heap.size, 0, none⟩) 1 ([s].map .string) := by
    refine ⟨rfl, fun _ => ⟨_, _, rfl, fun j u hu => ?_⟩⟩
    rw [Nat.zero_add, cell_of_row _ _ _ _ _ _ (World.alloc_heap_new w (.cells #[.string s] 9))]
    simpa using hu
  have h1 := ht _ hr
  unfold tagsV at h1
  rw [tags_one] at h1
  clear ht hr
  by_cases hn : isNameB s = true
  · rw [if_pos hn] at h1
    have H1 := Lib.hid h1
    rw [hn]
    clear h1 hn
    go_enter Tryz.func45, Tryz.ntmps45
    go_wp2_with (go_at_call 25; refine H1.out.mono ?_; rintro e w2 ⟨rfl, hb2⟩)
    go_ret
    exact ⟨by simp, belB⟩
  · rw [if_neg hn] at h1
    have H1 := Lib.hid h1
    have hf : isNameB s = false := by simpa using hn
    rw [hf]
    clear h1 hn hf
    go_enter Tryz.func45, Tryz.ntmps45
    go_wp2_with (go_at_call 25; refine H1.out.mono ?_; rintro e w2 ⟨rfl, hb2⟩)
    go_ret
    exact ⟨by simp, belB⟩
end Go.Proofs.YtdlbfjoemabfpaaGreatDoor
