/- What a row of a law asks behind a call that returns true and leaves all that was there as it was: for any program and any parameters. -/
import Derived.Carry
import Derived.OpenShut
import Derived.ChangeSame
import Derived.RowKit
import Derived.Below
import GoSem.PinnedTables
import Derived.Test.YtocgkpdolgnbgaaGreatDoorCards
import Derived.Test.YtocgkpdolgnbgaaGreatDoorTie
import Derived.Test.YtocgkpdolgnbgaaGreatDoorPJB
import Derived.WalkKit
import Derived.ProofKit
import Derived.Deep.DeepHandedRow
import Derived.Lib.LaidTab
import Derived.Stop.LaidErr
import Derived.Shelf.Vars
import Derived.Test.YtocgkpdolgnbgaaGreatDoorPJE
import Derived.Lib.SmallJoins
import Derived.Deep.Slices
import Derived.Deep.Fields
import Derived.Test.YtocgkpdolgnbgaaGreatDoorProg
import Derived.WalkSpells
import Derived.WalkLawsBesides
import Derived.Deep.QuietTactic
import Derived.BigQuiet
import Derived.Lib.QuietBelow
import Derived.Lib.Strings
import Derived.Lib.Hide
import Derived.Deep.RegionWith
import Derived.Deep.RegionHeld3
import Derived.Lib.IndexBytes
namespace Go.Proofs.YtocgkpdolgnbgaaGreatDoor
open Go.RowKit Go.ChangeShapes Go.WideShapes
section
variable {H : Type} {enc : TypeId × Value → H} {P : Program}
def rowed (P : Program) (ts : List TypeId) : Bool := ts.all fun t => P.readableRec t && decide (t < P.types.size)
theorem args_stay (hl : laidOutB P = true) {W W' : World} (hb : Below W.heap.size W W') (sp : Nat → Bool) :
    ∀ {ts : List TypeId} {vs : List Value} {ds : List (DataW H)} {ps : List MemPlace}, rowed P ts = true → DataW.TrodAll enc P W 0 (fun _ => true) true ts vs ds ps → (∀ x ∈ ps, x.block < W.heap.size) → (∀ x ∈ ps, sp x.block = true) → DataW.TrodAll enc P W' 0 sp true ts vs ds ps
  | [], vs, ds, ps, _, h, _, _ => by
    obtain ⟨rfl, rfl, rfl⟩ := trodAll_nil h
    exact trodAll_mk0
  | t :: ts, vs, ds, ps, hr, h, h1, h2 => by
    obtain ⟨v, vs', d, ds', p, q, rfl, rfl, rfl, hv, hs⟩ := trodAll_cons h
    simp only [rowed, List.all_cons, Bool.and_eq_true, decide_eq_true_eq] at hr
    exact trodAll_cons_mk (WideElems.Trod_stays hl hr.1.1 hr.1.2 hv (fun x hx => hb.same (h1 x (by simp [hx]))) (fun x hx => h2 x (by simp [hx])))
      (args_stay hl hb sp (by simpa [rowed] using hr.2) hs (fun x hx => h1 x (by simp [hx])) (fun x hx => h2 x (by simp [hx])))
theorem bool_reads {t : TypeId} {W : World} {b : Nat} {sp : Nat → Bool} {hd : Bool} (ht : P.underlying t = some .bool) (x : Bool) : DataW.TrodAll enc P W b sp hd [t] [.bool x] [.lit (.bool x)] [] := trodAll_mk1 (shut_bool ht x)
theorem law_post {f : Func} {s : ChangeSpec} {apart fresh handsOn again : Bool} {W W' : World} {args : Array Value} {ds gs : List (DataW H)} {before : List MemPlace} {t : TypeId}
    (hW : DataW.Whole enc P f.params.toList s.vars apart W args.toList ds gs before) (hvars : s.vars = []) (hl : laidOutB P = true) (hrow : rowed P f.params.toList = true) (hres : f.resultTypes = #[t]) (ht : P.underlying t = some .bool)
    (hfn : s.fn H (ds ++ gs) = { results := [.lit (.bool true)], args := ds }) (hb : Below W.heap.size W W') : s.post enc P f apart fresh handsOn again W args (.bool true) W' := by
  have hlt : ∀ x ∈ before, x.block < W.heap.size := fun x hx => hW.lt x hx
  have hW0 := hW
  obtain ⟨p, q, hA, hV, hp, hfz, hnd⟩ := hW
  rw [hvars] at hV
  obtain ⟨rfl, rfl⟩ := trodVars_none hV
  rw [List.append_nil] at hp
  subst hp
  have hr1 : (Value.bool true).resultList f.resultTypes.size = [.bool true] := by rw [hres]; rfl
  have hr2 : f.resultTypes.toList = [t] := by rw [hres]
  have hvs : ∀ sp, DataW.TrodVars enc P W' sp s.vars [] [] := fun sp => by rw [hvars]; rfl
  refine ⟨ds, [], before, [], before, [], hW0, ?_, ?_, ?_, ?_, fun _ => ⟨?_, .lit (.bool true) :: ds, [], before, ?_, fun x hx _ => hx⟩⟩
  · rw [hfn, hr1, hr2]; exact bool_reads ht true
  · rw [hfn]; exact args_stay hl hb _ hrow hA hlt (fun x hx => by simpa using hlt x hx)
  · rw [hfn]; exact hvs _
  · exact World.keptBut_mono (fun x hx => ⟨hx, .inr (.inl hx)⟩) (hb.frame (· ∈ before))
  · exact ok_one hres rfl (okWide_bool_mk ht true)
  · refine ⟨before, [], ?_, hvs _, by simp, ?_, hnd⟩
    · rw [hr1, hr2]
      have := trodAll_append (args_stay hl hb (fun _ => true) hrow hA hlt (fun _ _ => rfl)) (bool_reads (enc := enc) (P := P) (W := W') (b := 0) (sp := fun _ => true) (hd := true) ht true)
      simpa using this
    · intro b off hx
      rw [hb.frozen (hlt _ hx)]
      exact hfz b off hx
end
end Go.Proofs.YtocgkpdolgnbgaaGreatDoor
namespace Go.Proofs.YtocgkpdolgnbgaaGreatDoor
open Go.ChangeShapes Go.WideShapes Go.ChangeAt Go.RowKit Go.ChangeMaps
theorem own : ownKnob Tryz.prog.godebug = none := by kernel_rfl
theorem laidOut : laidOutB Tryz.prog = true := by kernel_rfl
theorem env_of {W : World} (h : W.ShapedOpen Tryz.prog) : Env W :=
  Go.Proofs.cell_of_shapedOpen_int (zero := #[.int .i64 0]) (t := 3) h (of_decide_eq_true (by kernel_rfl)) (by kernel_rfl) rfl (by kernel_rfl) (by kernel_rfl) Tryz.underlying3
def laidCells (k : IntKind) (l : List Nat) : Obj → Obj
  | .cells _ t frozen => .cells (l.map fun (n : Nat) => Value.int k (n : Int)).toArray t frozen
  | o => o
def tabA : List Nat := [0, 1, 28, 2, 29, 14, 24, 3, 30, 22, 20, 15, 25, 17, 4, 8, 31, 27, 13, 23, 21, 19, 16, 7, 26, 12, 18, 6, 11, 5, 10, 9]
def tabB : List Nat := [0, 1, 56, 2, 57, 49, 28, 3, 61, 58, 42, 50, 38, 29, 17, 4, 62, 47, 59, 36, 45, 43, 51, 22, 53, 39, 33, 30, 24, 18, 12, 5, 63, 55, 48, 27, 60, 41, 37, 16, 46, 35, 44, 21, 52, 32, 23, 11, 54, 26, 40, 15, 34, 20, 31, 10, 25, 14, 19, 9, 13, 8, 7, 6]
def tabC : List Nat := [1, 10, 100, 1000, 10000, 100000, 1000000, 10000000, 100000000, 1000000000, 10000000000, 100000000000, 1000000000000, 10000000000000, 100000000000000, 1000000000000000, 10000000000000000, 100000000000000000, 1000000000000000000, 10000000000000000000]
noncomputable def laidWorld (os : Os) : World :=
  { World.holding Tryz.prog os ⟨#[], #[], []⟩ with heap := (((((World.holding Tryz.prog os ⟨#[], #[], []⟩).heap.modify 6 (laidCells .u8 tabA)).modify 7 (laidCells .u8 tabB)).modify 3 (laidCells .u64 tabC)).modify 5 (laidCells .u8 ([128, 191, 160, 191, 128, 159, 144, 191, 128, 143] ++ List.replicate 22 0))).modify 4 (laidCells .u8 Go.Pinned.utf8FirstZ) }
theorem tab_same : (Rows.laid_internal_strconv_uint64pow10 : DataW Unit) = Lib.tabData .u64 Lib.pow10Tab := by kernel_rfl
theorem tab_of {W : World} {d1 d2 : DataW Unit} {n1 n2 : String} {rest : List (String × DataW Unit)} (h : laidMet Tryz.prog ((n1, d1) :: (n2, d2) :: ("internal/strconv.uint64pow10", Rows.laid_internal_strconv_uint64pow10) :: rest) W) : Tab W := by
  have h2 := laidMet.tail (laidMet.tail h)
  rw [tab_same] at h2
  exact Lib.tabIs_of_head (g := 3) (by kernel_rfl) (by kernel_rfl) Tryz.underlying227 Tryz.underlying207 (by kernel_rfl) (by kernel_rfl) h2
end Go.Proofs.YtocgkpdolgnbgaaGreatDoor
namespace Go.Proofs.YtocgkpdolgnbgaaGreatDoor
open Go.RowKit Go.Sort
set_option linter.unusedVariables false
set_option linter.unusedSimpArgs false
set_option maxRecDepth 100000
theorem cellsS : Tryz.prog.cellsOf 9 = 1 := by kernel_rfl
theorem cellsI : Tryz.prog.cellsOf 3 = 1 := by kernel_rfl
theorem cellsCo : Tryz.prog.cellsOf 25 = 7 := by kernel_rfl
theorem list_of {α : Type} {p : Nat → α → Prop} : ∀ n : Nat, (∀ i, i < n → ∃ x, p i x) → ∃ l : List α, l.length = n ∧ ∀ i x, l[i]? = some x → p i x
  | 0, _ => ⟨[], rfl, fun i x h => by simp at h⟩
  | n + 1, h => by
    obtain ⟨l, h1, h2⟩ := list_of n (fun i hi => h i (by omega))
    obtain ⟨x, hx⟩ := h n (by omega)
    refine ⟨l ++ [x], by simp [h1], fun i y hy => ?_⟩
    rw [List.getElem?_append] at hy
    split at hy
    · exact h2 i y hy
    · rename_i hn
      have hlt := (List.getElem?_eq_some_iff.1 hy).1
      simp at hlt
      have : i = n := by omega
      subst this
      rw [h1] at hy
      simp at hy
      subst hy
      exact hx
theorem plain_addr {w : World} {a : Addr} {v : Value} (h : w.cell? (a.add 0) = some v) : ∃ b o, a = ⟨b, o, none⟩ := by
  obtain ⟨b, o, s⟩ := a
  refine ⟨b, o, ?_⟩
  have e : (⟨b, o, s⟩ : Addr).add 0 = ⟨b, o, s⟩ := by simp [Addr.add]
  rw [e] at h
  cases s with
  | none => rfl
  | some s =>
    unfold World.cell? at h
    split at h <;> simp at h
theorem add_plain (b o j : Nat) : (⟨b, o, none⟩ : Addr).add j = ⟨b, o + j, none⟩ := by
  unfold Addr.add; split <;> simp_all
section
variable {H : Type} {enc : TypeId × Value → H} {W : World} {base : Nat} {sp : Nat → Bool} {hd : Bool}
theorem strs_reads {fuel : Nat} {v : Value} {x : DataW H × List MemPlace} (h : DataW.trod enc Tryz.prog W base sp hd fuel 22 [v] = some x) : ∃ (A : Option Addr) (n c : Nat) (xs : List ByteArray), v = .slice A n c ∧ xs.length = n ∧ Reads W 1 A n (xs.map .string) := by
  rcases Go.Deep.open_slice Tryz.underlying22 h with ⟨h0, _⟩ | ⟨a, len, cap, m, n, D, Pl, hcs, hb, hl, hm, hmm, hx, hi⟩
  · injection h0 with h0
    subst h0
    exact ⟨none, 0, 0, [], rfl, rfl, Reads.nil_ _ _ _⟩
  · injection hcs with hcs
    subst hcs
    have hlm : len ≤ m := by rw [hmm]; split <;> omega
    obtain ⟨xs, h1, h2⟩ := list_of (p := fun i (s : ByteArray) => W.cell? (a.add i) = some (.string s)) len (fun i hil => by
      obtain ⟨cs', hc, ht⟩ := hi i (by omega)
      rw [cellsS, Nat.mul_one] at hc
      obtain ⟨s, rfl, _, hs⟩ := DataW.trod_string Tryz.underlying9 ht
      have := (World.cells?_some hc).2.2 0 (by omega)
      exact ⟨s, by simpa [Addr.add] using this⟩)
    refine ⟨some a, len, cap, xs, rfl, h1, ⟨by simp [h1], fun hn => ?_⟩⟩
    obtain ⟨s0, hs0⟩ : ∃ s, xs[0]? = some s := ⟨_, List.getElem?_eq_getElem (by omega)⟩
    obtain ⟨b, o, rfl⟩ := plain_addr (h2 0 s0 hs0)
    refine ⟨b, o, rfl, fun j u hu => ?_⟩
    obtain ⟨s, hs, rfl⟩ := strs_at hu
    rw [← add_plain]
    exact h2 j s hs
theorem ints_reads {fuel : Nat} {v : Value} {x : DataW H × List MemPlace} (h : DataW.trod enc Tryz.prog W base sp hd fuel 23 [v] = some x) : ∃ (A : Option Addr) (n c : Nat) (xs : List Int), v = .slice A n c ∧ xs.length = n ∧ Reads W 1 A n (xs.map (.int .i64)) := by
  rcases Go.Deep.open_slice Tryz.underlying23 h with ⟨h0, _⟩ | ⟨a, len, cap, m, n, D, Pl, hcs, hb, hl, hm, hmm, hx, hi⟩
  · injection h0 with h0
    subst h0
    exact ⟨none, 0, 0, [], rfl, rfl, Reads.nil_ _ _ _⟩
  · injection hcs with hcs
    subst hcs
    have hlm : len ≤ m := by rw [hmm]; split <;> omega
    obtain ⟨xs, h1, h2⟩ := list_of (p := fun i (s : Int) => W.cell? (a.add i) = some (.int .i64 s)) len (fun i hil => by
      obtain ⟨cs', hc, ht⟩ := hi i (by omega)
      rw [cellsI, Nat.mul_one] at hc
      obtain ⟨s, rfl, _, hs⟩ := DataW.trod_int Tryz.underlying3 ht
      have := (World.cells?_some hc).2.2 0 (by omega)
      exact ⟨s, by simpa [Addr.add] using this⟩)
    refine ⟨some a, len, cap, xs, rfl, h1, ⟨by simp [h1], fun hn => ?_⟩⟩
    obtain ⟨s0, hs0⟩ : ∃ s, xs[0]? = some s := ⟨_, List.getElem?_eq_getElem (by omega)⟩
    obtain ⟨b, o, rfl⟩ := plain_addr (h2 0 s0 hs0)
    refine ⟨b, o, rfl, fun j u hu => ?_⟩
    obtain ⟨s, hs, rfl⟩ := ints_at hu
    rw [← add_plain]
    exact h2 j s hs
theorem open_cond {r : Reach} {b0 : Nat} {v : Value} {d : DataW H} {ps : List MemPlace} (hval : Value.okWide Tryz.prog W r b0 25 v) (h : DataW.Trod enc Tryz.prog W base sp hd 25 v d ps) :
    ∃ (c : CondV) (m : CondMem), v = CondMem.val c m ∧ CondReads W c m := by
  obtain ⟨cs, rfl, hsz⟩ := Go.WideShapes.okWide_struct Tryz.underlying25 hval
  obtain ⟨l⟩ := cs
  match l, hsz.trans cellsCo with
  | [c0, c1, c2, c3, c4, c5, c6], _ =>
    obtain ⟨fuel, hf⟩ := h
    obtain ⟨ys, n', hn', hy, hlen, hyl, hg⟩ := DataW.trod_struct Tryz.underlying25 hf
    have hyl2 : ys.length = 7 := hyl
    have hone : ∀ t, Tryz.prog.cellsOf t = 1 → ∀ i, i < 7 → ∀ y, List.take (Tryz.prog.cellsOf t) (List.drop i [c0, c1, c2, c3, c4, c5, c6]) = y → List.take 1 (List.drop i [c0, c1, c2, c3, c4, c5, c6]) = y := fun t ht i _ y hy => by rw [← ht]; exact hy
    have h0 : DataW.trod enc Tryz.prog W base sp hd n' 3 [c0] = ys[0]? := hg 0 _ rfl
    have h1 : DataW.trod enc Tryz.prog W base sp hd n' 3 [c1] = ys[1]? := hg 1 _ rfl
    have h2 : DataW.trod enc Tryz.prog W base sp hd n' 9 [c2] = ys[2]? := hg 2 _ rfl
    have h3 : DataW.trod enc Tryz.prog W base sp hd n' 22 [c3] = ys[3]? := hg 3 _ rfl
    have h4 : DataW.trod enc Tryz.prog W base sp hd n' 22 [c4] = ys[4]? := hg 4 _ rfl
    have h5 : DataW.trod enc Tryz.prog W base sp hd n' 23 [c5] = ys[5]? := hg 5 _ rfl
    have h6 : DataW.trod enc Tryz.prog W base sp hd n' 3 [c6] = ys[6]? := hg 6 _ rfl
    rw [List.getElem?_eq_getElem (by omega)] at h0 h1 h2 h3 h4 h5 h6
    obtain ⟨fr, e0, _⟩ := DataW.trod_int Tryz.underlying3 h0
    obtain ⟨till, e1, _⟩ := DataW.trod_int Tryz.underlying3 h1
    obtain ⟨pat, e2, _⟩ := DataW.trod_string Tryz.underlying9 h2
    obtain ⟨us, e6, _⟩ := DataW.trod_int Tryz.underlying3 h6
    obtain ⟨A, na, ca, cl, rfl, l1, r1⟩ := strs_reads h3
    obtain ⟨B, nb, cb, co, rfl, l2, r2⟩ := strs_reads h4
    obtain ⟨S, ns, cs, si, rfl, l3, r3⟩ := ints_reads h5
    injection e0 with e0
    injection e1 with e1
    injection e2 with e2
    injection e6 with e6
    subst e0; subst e1; subst e2; subst e6; subst l1; subst l2; subst l3
    exact ⟨⟨fr, till, pat, cl, co, si, us⟩, ⟨A, ca, B, cb, S, cs⟩, rfl, ⟨r1, r2, r3⟩⟩
end
end Go.Proofs.YtocgkpdolgnbgaaGreatDoor
