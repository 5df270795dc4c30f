/- What 'Parse' returns. -/
import Derived.Test.YtjhlpkhfdghngaaGreatDoorXZ2
import Derived.Test.YtjhlpkhfdghngaaGreatDoorXZ1
import Derived.Test.YtjhlpkhfdghngaaGreatDoorProg
import Derived.WalkKit
import Derived.WalkSpells
import Derived.WalkLawsBesides
import Derived.Below
import Derived.Deep.QuietTactic
import Derived.BigQuiet
import Derived.Lib.QuietBelow
import Derived.Lib.Strings
import Derived.Lib.Hide
import Derived.Deep.RegionWith
import Derived.Deep.RegionHeld3
import Derived.Lib.IndexBytes
namespace Go.Proofs.YtjhlpkhfdghngaaGreatDoor
open Go.RowKit Go.Sort
set_option linter.unusedVariables false
set_option linter.unusedSimpArgs false
set_option maxRecDepth 100000
structure Adr where
  cust : ByteArray
  path : List ByteArray
  query : List (ByteArray × ByteArray)
def noAdr : Adr := ⟨⟨#[]⟩, [], []⟩
def leftL (s : ByteArray) : List UInt8 × List UInt8 × Bool := Lib.cut (lowL s.data.toList) [63]
def custL (s : ByteArray) : List UInt8 × List UInt8 × Bool := Lib.cut (Lib.trimSuffix (leftL s).1 [47]) [47]
def adrOf (c : ByteArray) (nm : Bool) (rr : Option (List ByteArray)) (qq : Option (List (ByteArray × ByteArray))) : Adr × Int :=
  match nm, rr, qq with
  | true, some p, some q => if p.length ≤ 32 ∧ q.length ≤ 16 then (⟨c, p, q⟩, 0) else (noAdr, 2)
  | _, _, _ => (noAdr, 3)
def pathB (t : List UInt8 × List UInt8 × Bool) : Option (List ByteArray) := if t.2.2 then resB [] (splitB 47 (toB t.2.1)) else some []
def parseB (s : ByteArray) : Adr × Int :=
  if 4096 < s.size then (noAdr, 2)
  else adrOf (toB (custL s).1) (isNameB (toB (custL s).1)) (pathB (custL s)) (pairsB (toB (leftL s).2.1))
def AdrPost (r : Adr × Int) (w : World) (e : Ending) (w' : World) : Prop :=
  Below w.heap.size w w' ∧ ∃ A ca B cb, e = .returned (.tuple #[.agg #[.string r.1.cust, .slice A r.1.path.length ca, .slice B r.1.query.length cb], .int .i64 r.2]) ∧
    Reads w' 1 A r.1.path.length (r.1.path.map .string) ∧ Reads w' 2 B r.1.query.length (pairCells r.1.query) ∧ (∀ a, A = some a → w.heap.size ≤ a.block) ∧ (∀ a, B = some a → w.heap.size ≤ a.block) ∧ r.1.path.length ≤ ca
theorem Reads.set_ {w : World} {size n : Nat} {A : Option Addr} {vs : List Value} (h : Reads w size A n vs) (p : Addr) (x : Value) (hp : ∀ a, A = some a → a.block ≠ p.block) : Reads (w.setCell p x) size A n vs := by
  refine ⟨h.1, fun hn => ?_⟩
  obtain ⟨b, o, rfl, hc⟩ := h.2 hn
  exact ⟨b, o, rfl, fun j u hu => (World.cell?_setCell_other w p ⟨b, o + j, none⟩ x (by intro e; exact hp _ rfl (by rw [e]))).trans (hc j u hu)⟩
theorem lowL_len (l : List UInt8) : (lowL l).length = l.length := by simp [lowL]
theorem trim_len (l q : List UInt8) : (Lib.trimSuffix l q).length ≤ l.length := by
  unfold Lib.trimSuffix; split
  · simp
  · exact Nat.le_refl _
theorem resolve_parts (s : ByteArray) (w X : World) (hX : X = ((w.alloc (.cells #[.string s] 9)).alloc (.cells #[.string ⟨#[47]⟩] 9)).alloc (.cells #[.int .i64 0] 3)) (hs : s.size ≤ 4096) :
    Calls Tryz.prog 157 #[.func (.func 275) #[] #[.pointer (some ⟨w.heap.size + 1, 0, none⟩), .pointer (some ⟨w.heap.size, 0, none⟩), .pointer (some ⟨w.heap.size + 1 + 1, 0, none⟩)]] X (ResPost (resB [] (splitB 47 s)) X w.heap.size) := by
  have b0 : Boxed X w.heap.size 9 (.string s) := by
    rw [hX]; exact ((Boxed.new w _ _).alloc _).alloc _
  have b1 : Boxed X (w.heap.size + 1) 9 (.string ⟨#[47]⟩) := by
    have := Boxed.new (w.alloc (.cells #[.string s] 9)) 9 (.string ⟨#[47]⟩)
    rw [World.size_alloc] at this
    rw [hX]; exact this.alloc _
  have b2 : Boxed X (w.heap.size + 1 + 1) 3 (.int .i64 0) := by
    have := Boxed.new ((w.alloc (.cells #[.string s] 9)).alloc (.cells #[.string ⟨#[47]⟩] 9)) 3 (.int .i64 0)
    rw [World.size_alloc, World.size_alloc] at this
    rw [hX]; exact this
  have hz : X.heap.size = w.heap.size + 1 + 1 + 1 := by rw [hX]; simp
  have hn := splitB_num 47 s
  exact resolve_any 275 w.heap.size _ (enters_of Tryz.func275 (by kernel_rfl) rfl) (Turns w.heap.size) (splitB 47 s) X w.heap.size (w.heap.size + 3) (by omega)
    (splitSeq_iter w.heap.size 47 s X (by omega) b0.cell b1.cell b2.cell b0.frozen) (tame_turns _ _ _ (Nat.le_refl _) (by omega)) (by omega) (by omega) (fun p hp => by have := splitB_size 47 s p hp; omega)
theorem parse1_any (v : Value) (w : World) : Calls Tryz.prog 156 #[v] w fun e w' => (∃ u, e = .returned u) ∧ w' = w := by
  go_enter Tryz.func156, Tryz.ntmps156
  go_wp2
  go_end0
  exact ⟨⟨_, rfl⟩, rfl⟩
theorem resolve_none (w : World) : Calls Tryz.prog 157 #[.func (.func 156) #[] #[]] w (ResPost (some []) w w.heap.size) := by
  refine resolve_any 156 w.heap.size #[] (enters_of Tryz.func156 (by kernel_rfl) rfl) (fun _ _ => False) [] w 0 0 (by omega) ?_ (tame_none _ _) (Nat.le_refl _) (by simp) (by simp)
  intro l J Jx W _ _ _ _ h0
  refine (callsIn_wide.2 (parse1_any _ W)).mono ?_
  rintro e w' ⟨hu, rfl⟩
  exact ⟨hu, .inl h0⟩
theorem ResPost.some_ {rr : Option (List ByteArray)} {X w' : World} {b : Nat} {e : Ending} (h : ResPost rr X b e w') : Below b X w' ∧ ∃ A c, e = .returned (.tuple #[.slice A (rr.getD []).length c, .bool rr.isSome]) ∧ Reads w' 1 A (rr.getD []).length ((rr.getD []).map .string) ∧ (∀ a, A = some a → X.heap.size ≤ a.block) ∧ (rr.getD []).length ≤ c := by
  obtain ⟨hb, h⟩ := h
  cases rr with
  | none => exact ⟨hb, none, 0, h, Reads.nil_ _ _ _, fun a ha => (by cases ha), Nat.le_refl _⟩
  | some p => exact ⟨hb, h⟩
theorem PairsPost.some_ {qq : Option (List (ByteArray × ByteArray))} {X w' : World} {e : Ending} (h : PairsPost qq X e w') : Below X.heap.size X w' ∧ ∃ B c, e = .returned (.tuple #[.slice B (qq.getD []).length c, .bool qq.isSome]) ∧ Reads w' 2 B (qq.getD []).length (pairCells (qq.getD [])) ∧ ∀ a, B = some a → X.heap.size ≤ a.block := by
  obtain ⟨hb, h⟩ := h
  cases qq with
  | none => exact ⟨hb, none, 0, h, Reads.nil_ _ _ _, fun a ha => (by cases ha)⟩
  | some p => exact ⟨hb, h⟩
theorem parse_long (s : ByteArray) (w : World) (hs : 4096 < s.size) : Calls Tryz.prog 82 #[.string s] w (AdrPost (noAdr, 2) w) := by
  go_enter Tryz.func82, Tryz.ntmps82
  go_wp2
  exact bodyPost_ret (v := .tuple #[.agg #[.string ⟨#[]⟩, .slice none 0 0, .slice none 0 0], .int .i64 2]) (by simp [results, Tryz.results82, go_sem]) rfl ⟨belB, none, 0, none, 0, rfl, Reads.nil_ _ _ _, Reads.nil_ _ _ _, (fun a ha => by cases ha), (fun a ha => by cases ha), Nat.le_refl _⟩
set_option maxHeartbeats 4000000 in
theorem parse_core (s Lb L Q T C R : ByteArray) (b1 more nm : Bool) (rr : Option (List ByteArray)) (qq : Option (List (ByteArray × ByteArray))) (w : World) (hs : s.size ≤ 4096) (hR : R.size ≤ 4096) (hE : Env w)
    (HL : Hid (∀ W, Calls Tryz.prog 153 #[.string s] W (Ret W (.string Lb))))
    (HC1 : Hid (∀ W, Env W → Calls Tryz.prog 58 #[.string Lb, .string ⟨#[63]⟩] W (Ret W (.tuple #[.string L, .string Q, .bool b1]))))
    (HT : Hid (∀ W, Calls Tryz.prog 154 #[.string L, .string ⟨#[47]⟩] W fun e w' => e = .returned (.string T) ∧ w' = W))
    (HC2 : Hid (∀ W, Env W → Calls Tryz.prog 58 #[.string T, .string ⟨#[47]⟩] W (Ret W (.tuple #[.string C, .string R, .bool more]))))
    (HRR : Hid (more = true → resB [] (splitB 47 R) = rr)) (HR0 : Hid (more = false → rr = some []))
    (HP : Hid (∀ W, Env W → Calls Tryz.prog 158 #[.string Q] W (PairsPost qq W)))
    (HN : Hid (∀ W, Calls Tryz.prog 78 #[.string C] W (Ret W (.bool nm)))) :
    Calls Tryz.prog 82 #[.string s] w (AdrPost (adrOf C nm rr qq) w) := by
  obtain ⟨ps, np, o1, hps, hnp, ho1⟩ : ∃ ps np o1, ps = rr.getD [] ∧ np = (rr.getD []).length ∧ o1 = rr.isSome := ⟨_, _, _, rfl, rfl, rfl⟩
  obtain ⟨qs, nq, o2, hqs, hnq, ho2⟩ : ∃ qs nq o2, qs = qq.getD [] ∧ nq = (qq.getD []).length ∧ o2 = qq.isSome := ⟨_, _, _, rfl, rfl, rfl⟩
  have HRs : Hid (∀ X e w' b, ResPost rr X b e w' → Below b X w' ∧ ∃ A c, e = .returned (.tuple #[.slice A np c, .bool o1]) ∧ Reads w' 1 A np (ps.map .string) ∧ (∀ a, A = some a → X.heap.size ≤ a.block) ∧ np ≤ c) := Lib.hid (fun X e w' b h => by rw [hps, hnp, ho1]; exact h.some_)
  have HPs : Hid (∀ X e w', PairsPost qq X e w' → Below X.heap.size X w' ∧ ∃ A c, e = .returned (.tuple #[.slice A nq c, .bool o2]) ∧ Reads w' 2 A nq (pairCells qs) ∧ ∀ a, A = some a → X.heap.size ≤ a.block) := Lib.hid (fun X e w' h => by rw [hqs, hnq, ho2]; exact h.some_)
  have hv : adrOf C nm rr qq = if nm && o1 && o2 then (if np ≤ 32 ∧ nq ≤ 16 then (⟨C, ps, qs⟩, 0) else (noAdr, 2)) else (noAdr, 3) := by
    rw [hps, hnp, ho1, hqs, hnq, ho2]
    cases nm <;> cases rr <;> cases qq <;> simp [adrOf]
  rw [hv]
  have HPL : Hid (ps.length = np) := Lib.hid (by rw [hps, hnp])
  have HQL : Hid (qs.length = nq) := Lib.hid (by rw [hqs, hnq])
  clear hv hps hnp ho1 hqs hnq ho2
  have hd : decide ((4096 : Int) < (s.size : Int)) = false := by simp; omega
  cases more
  · cases nm
    · simp only [Bool.false_and, Bool.false_eq_true, if_false]
      go_enter Tryz.func82, Tryz.ntmps82; go_wp2_with (first | (go_at_call 153; refine (HL.out _).mono ?_; rintro e w1 ⟨rfl, hb1⟩; obtain ⟨hc1, hf1⟩ := bcell hb1; have hz1_0 : w.heap.size < w1.heap.size := (by have := hb1.size; (try simp at this); omega); have hE1 := Env.keep (Env.keep hE (balloc (Below.refl _ _) _)) hb1) | (go_at_call 58; refine (HC1.out _ hE1).mono ?_; rintro e w2 ⟨rfl, hb2⟩; obtain ⟨hc2, hf2⟩ := bcell hb2; have hz2_0 : w.heap.size < w2.heap.size := (by have := hb2.size; (try simp at this); omega); have hE2 := Env.keep hE1 hb2; clear hE1) | (go_at_call 154; refine (HT.out _).mono ?_; rintro e wt ⟨rfl, hwt⟩; rw [hwt]; clear hwt wt) | (go_at_call 58; refine (HC2.out _ hE2).mono ?_; rintro e w3 ⟨rfl, hb3⟩; obtain ⟨hc3, hf3⟩ := bcell hb3; have hz3_0 : w.heap.size < w3.heap.size := (by have := hb3.size; (try simp at this); omega); have hE3 := Env.keep hE2 hb3) | (go_at_call 155; refine (splitSeq_any _ _ _).mono ?_; rintro e X ⟨rfl, hX⟩; have cR := resolve_parts R w3 X hX hR; have hbX : Below w3.heap.size w3 X := (by rw [hX]; exact balloc (balloc (balloc (Below.refl _ _) _) _) _); clear hX) | (go_at_call 157; refine (resolve_none _).mono ?_; rintro e w5 hres; rw [← HR0.out (by simp)] at hres; obtain ⟨hbr, PA, Pc, rfl, hPR, hPA, hPc⟩ := HRs.out _ _ _ _ hres; clear hres cR; have hb5 : Below w3.heap.size w3 w5 := bstep hbX hbr; obtain ⟨hc5, hf5⟩ := bcell hb5; have hz5_0 : w.heap.size < w5.heap.size := (by have := hb5.size; (try simp at this); omega); have hE5 := Env.keep hE3 hb5) | (go_at_call 158; refine (HP.out _ hE5).mono ?_; rintro e w6 hpp; obtain ⟨hb6, QA, Qc, rfl, hQR, hQA⟩ := HPs.out _ _ _ hpp; clear hpp; obtain ⟨hc6, hf6⟩ := bcell hb6; have hz6_0 : w.heap.size < w6.heap.size := (by have := hb6.size; (try simp at this); omega)) | (go_at_call 78; refine (HN.out _).mono ?_; rintro e w7 ⟨rfl, hb7⟩; obtain ⟨hc7, hf7⟩ := bcell hb7; have hz7_0 : w.heap.size < w7.heap.size := (by have := hb7.size; (try simp at this); omega)))
      exact bodyPost_ret (v := .tuple #[.agg #[.string ⟨#[]⟩, .slice none 0 0, .slice none 0 0], .int .i64 3]) (by simp [results, Tryz.results82, go_sem, *]) rfl ⟨belB, none, 0, none, 0, rfl, Reads.nil_ _ _ _, Reads.nil_ _ _ _, (fun a ha => by cases ha), (fun a ha => by cases ha), Nat.le_refl _⟩
    cases o1
    · simp only [Bool.true_and, Bool.false_and, Bool.false_eq_true, if_false]
      go_enter Tryz.func82, Tryz.ntmps82; go_wp2_with (first | (go_at_call 153; refine (HL.out _).mono ?_; rintro e w1 ⟨rfl, hb1⟩; obtain ⟨hc1, hf1⟩ := bcell hb1; have hz1_0 : w.heap.size < w1.heap.size := (by have := hb1.size; (try simp at this); omega); have hE1 := Env.keep (Env.keep hE (balloc (Below.refl _ _) _)) hb1) | (go_at_call 58; refine (HC1.out _ hE1).mono ?_; rintro e w2 ⟨rfl, hb2⟩; obtain ⟨hc2, hf2⟩ := bcell hb2; have hz2_0 : w.heap.size < w2.heap.size := (by have := hb2.size; (try simp at this); omega); have hE2 := Env.keep hE1 hb2; clear hE1) | (go_at_call 154; refine (HT.out _).mono ?_; rintro e wt ⟨rfl, hwt⟩; rw [hwt]; clear hwt wt) | (go_at_call 58; refine (HC2.out _ hE2).mono ?_; rintro e w3 ⟨rfl, hb3⟩; obtain ⟨hc3, hf3⟩ := bcell hb3; have hz3_0 : w.heap.size < w3.heap.size := (by have := hb3.size; (try simp at this); omega); have hE3 := Env.keep hE2 hb3) | (go_at_call 155; refine (splitSeq_any _ _ _).mono ?_; rintro e X ⟨rfl, hX⟩; have cR := resolve_parts R w3 X hX hR; have hbX : Below w3.heap.size w3 X := (by rw [hX]; exact balloc (balloc (balloc (Below.refl _ _) _) _) _); clear hX) | (go_at_call 157; refine (resolve_none _).mono ?_; rintro e w5 hres; rw [← HR0.out (by simp)] at hres; obtain ⟨hbr, PA, Pc, rfl, hPR, hPA, hPc⟩ := HRs.out _ _ _ _ hres; clear hres cR; have hb5 : Below w3.heap.size w3 w5 := bstep hbX hbr; obtain ⟨hc5, hf5⟩ := bcell hb5; have hz5_0 : w.heap.size < w5.heap.size := (by have := hb5.size; (try simp at this); omega); have hE5 := Env.keep hE3 hb5) | (go_at_call 158; refine (HP.out _ hE5).mono ?_; rintro e w6 hpp; obtain ⟨hb6, QA, Qc, rfl, hQR, hQA⟩ := HPs.out _ _ _ hpp; clear hpp; obtain ⟨hc6, hf6⟩ := bcell hb6; have hz6_0 : w.heap.size < w6.heap.size := (by have := hb6.size; (try simp at this); omega)) | (go_at_call 78; refine (HN.out _).mono ?_; rintro e w7 ⟨rfl, hb7⟩; obtain ⟨hc7, hf7⟩ := bcell hb7; have hz7_0 : w.heap.size < w7.heap.size := (by have := hb7.size; (try simp at this); omega)))
      exact bodyPost_ret (v := .tuple #[.agg #[.string ⟨#[]⟩, .slice none 0 0, .slice none 0 0], .int .i64 3]) (by simp [results, Tryz.results82, go_sem, *]) rfl ⟨belB, none, 0, none, 0, rfl, Reads.nil_ _ _ _, Reads.nil_ _ _ _, (fun a ha => by cases ha), (fun a ha => by cases ha), Nat.le_refl _⟩
    cases o2
    · simp only [Bool.true_and, Bool.and_false, Bool.false_eq_true, if_false]
      go_enter Tryz.func82, Tryz.ntmps82; go_wp2_with (first | (go_at_call 153; refine (HL.out _).mono ?_; rintro e w1 ⟨rfl, hb1⟩; obtain ⟨hc1, hf1⟩ := bcell hb1; have hz1_0 : w.heap.size < w1.heap.size := (by have := hb1.size; (try simp at this); omega); have hE1 := Env.keep (Env.keep hE (balloc (Below.refl _ _) _)) hb1) | (go_at_call 58; refine (HC1.out _ hE1).mono ?_; rintro e w2 ⟨rfl, hb2⟩; obtain ⟨hc2, hf2⟩ := bcell hb2; have hz2_0 : w.heap.size < w2.heap.size := (by have := hb2.size; (try simp at this); omega); have hE2 := Env.keep hE1 hb2; clear hE1) | (go_at_call 154; refine (HT.out _).mono ?_; rintro e wt ⟨rfl, hwt⟩; rw [hwt]; clear hwt wt) | (go_at_call 58; refine (HC2.out _ hE2).mono ?_; rintro e w3 ⟨rfl, hb3⟩; obtain ⟨hc3, hf3⟩ := bcell hb3; have hz3_0 : w.heap.size < w3.heap.size := (by have := hb3.size; (try simp at this); omega); have hE3 := Env.keep hE2 hb3) | (go_at_call 155; refine (splitSeq_any _ _ _).mono ?_; rintro e X ⟨rfl, hX⟩; have cR := resolve_parts R w3 X hX hR; have hbX : Below w3.heap.size w3 X := (by rw [hX]; exact balloc (balloc (balloc (Below.refl _ _) _) _) _); clear hX) | (go_at_call 157; refine (resolve_none _).mono ?_; rintro e w5 hres; rw [← HR0.out (by simp)] at hres; obtain ⟨hbr, PA, Pc, rfl, hPR, hPA, hPc⟩ := HRs.out _ _ _ _ hres; clear hres cR; have hb5 : Below w3.heap.size w3 w5 := bstep hbX hbr; obtain ⟨hc5, hf5⟩ := bcell hb5; have hz5_0 : w.heap.size < w5.heap.size := (by have := hb5.size; (try simp at this); omega); have hE5 := Env.keep hE3 hb5) | (go_at_call 158; refine (HP.out _ hE5).mono ?_; rintro e w6 hpp; obtain ⟨hb6, QA, Qc, rfl, hQR, hQA⟩ := HPs.out _ _ _ hpp; clear hpp; obtain ⟨hc6, hf6⟩ := bcell hb6; have hz6_0 : w.heap.size < w6.heap.size := (by have := hb6.size; (try simp at this); omega)) | (go_at_call 78; refine (HN.out _).mono ?_; rintro e w7 ⟨rfl, hb7⟩; obtain ⟨hc7, hf7⟩ := bcell hb7; have hz7_0 : w.heap.size < w7.heap.size := (by have := hb7.size; (try simp at this); omega)))
      exact bodyPost_ret (v := .tuple #[.agg #[.string ⟨#[]⟩, .slice none 0 0, .slice none 0 0], .int .i64 3]) (by simp [results, Tryz.results82, go_sem, *]) rfl ⟨belB, none, 0, none, 0, rfl, Reads.nil_ _ _ _, Reads.nil_ _ _ _, (fun a ha => by cases ha), (fun a ha => by cases ha), Nat.le_refl _⟩
    simp only [Bool.and_self, if_true]
    by_cases hnp : np ≤ 32
    rotate_left
    · rw [if_neg (fun h => hnp h.1)]
      have hd1 : decide ((32 : Int) < (np : Int)) = true := by simp; omega
      go_enter Tryz.func82, Tryz.ntmps82; go_wp2_with (first | (go_at_call 153; refine (HL.out _).mono ?_; rintro e w1 ⟨rfl, hb1⟩; obtain ⟨hc1, hf1⟩ := bcell hb1; have hz1_0 : w.heap.size < w1.heap.size := (by have := hb1.size; (try simp at this); omega); have hE1 := Env.keep (Env.keep hE (balloc (Below.refl _ _) _)) hb1) | (go_at_call 58; refine (HC1.out _ hE1).mono ?_; rintro e w2 ⟨rfl, hb2⟩; obtain ⟨hc2, hf2⟩ := bcell hb2; have hz2_0 : w.heap.size < w2.heap.size := (by have := hb2.size; (try simp at this); omega); have hE2 := Env.keep hE1 hb2; clear hE1) | (go_at_call 154; refine (HT.out _).mono ?_; rintro e wt ⟨rfl, hwt⟩; rw [hwt]; clear hwt wt) | (go_at_call 58; refine (HC2.out _ hE2).mono ?_; rintro e w3 ⟨rfl, hb3⟩; obtain ⟨hc3, hf3⟩ := bcell hb3; have hz3_0 : w.heap.size < w3.heap.size := (by have := hb3.size; (try simp at this); omega); have hE3 := Env.keep hE2 hb3) | (go_at_call 155; refine (splitSeq_any _ _ _).mono ?_; rintro e X ⟨rfl, hX⟩; have cR := resolve_parts R w3 X hX hR; have hbX : Below w3.heap.size w3 X := (by rw [hX]; exact balloc (balloc (balloc (Below.refl _ _) _) _) _); clear hX) | (go_at_call 157; refine (resolve_none _).mono ?_; rintro e w5 hres; rw [← HR0.out (by simp)] at hres; obtain ⟨hbr, PA, Pc, rfl, hPR, hPA, hPc⟩ := HRs.out _ _ _ _ hres; clear hres cR; have hb5 : Below w3.heap.size w3 w5 := bstep hbX hbr; obtain ⟨hc5, hf5⟩ := bcell hb5; have hz5_0 : w.heap.size < w5.heap.size := (by have := hb5.size; (try simp at this); omega); have hE5 := Env.keep hE3 hb5) | (go_at_call 158; refine (HP.out _ hE5).mono ?_; rintro e w6 hpp; obtain ⟨hb6, QA, Qc, rfl, hQR, hQA⟩ := HPs.out _ _ _ hpp; clear hpp; obtain ⟨hc6, hf6⟩ := bcell hb6; have hz6_0 : w.heap.size < w6.heap.size := (by have := hb6.size; (try simp at this); omega)) | (go_at_call 78; refine (HN.out _).mono ?_; rintro e w7 ⟨rfl, hb7⟩; obtain ⟨hc7, hf7⟩ := bcell hb7; have hz7_0 : w.heap.size < w7.heap.size := (by have := hb7.size; (try simp at this); omega)))
      exact bodyPost_ret (v := .tuple #[.agg #[.string ⟨#[]⟩, .slice none 0 0, .slice none 0 0], .int .i64 2]) (by simp [results, Tryz.results82, go_sem, *]) rfl ⟨belB, none, 0, none, 0, rfl, Reads.nil_ _ _ _, Reads.nil_ _ _ _, (fun a ha => by cases ha), (fun a ha => by cases ha), Nat.le_refl _⟩
    have hd1 : decide ((32 : Int) < (np : Int)) = false := by simp; omega
    by_cases hnq : nq ≤ 16
    rotate_left
    · rw [if_neg (fun h => hnq h.2)]
      have hd2 : decide ((16 : Int) < (nq : Int)) = true := by simp; omega
      go_enter Tryz.func82, Tryz.ntmps82; go_wp2_with (first | (go_at_call 153; refine (HL.out _).mono ?_; rintro e w1 ⟨rfl, hb1⟩; obtain ⟨hc1, hf1⟩ := bcell hb1; have hz1_0 : w.heap.size < w1.heap.size := (by have := hb1.size; (try simp at this); omega); have hE1 := Env.keep (Env.keep hE (balloc (Below.refl _ _) _)) hb1) | (go_at_call 58; refine (HC1.out _ hE1).mono ?_; rintro e w2 ⟨rfl, hb2⟩; obtain ⟨hc2, hf2⟩ := bcell hb2; have hz2_0 : w.heap.size < w2.heap.size := (by have := hb2.size; (try simp at this); omega); have hE2 := Env.keep hE1 hb2; clear hE1) | (go_at_call 154; refine (HT.out _).mono ?_; rintro e wt ⟨rfl, hwt⟩; rw [hwt]; clear hwt wt) | (go_at_call 58; refine (HC2.out _ hE2).mono ?_; rintro e w3 ⟨rfl, hb3⟩; obtain ⟨hc3, hf3⟩ := bcell hb3; have hz3_0 : w.heap.size < w3.heap.size := (by have := hb3.size; (try simp at this); omega); have hE3 := Env.keep hE2 hb3) | (go_at_call 155; refine (splitSeq_any _ _ _).mono ?_; rintro e X ⟨rfl, hX⟩; have cR := resolve_parts R w3 X hX hR; have hbX : Below w3.heap.size w3 X := (by rw [hX]; exact balloc (balloc (balloc (Below.refl _ _) _) _) _); clear hX) | (go_at_call 157; refine (resolve_none _).mono ?_; rintro e w5 hres; rw [← HR0.out (by simp)] at hres; obtain ⟨hbr, PA, Pc, rfl, hPR, hPA, hPc⟩ := HRs.out _ _ _ _ hres; clear hres cR; have hb5 : Below w3.heap.size w3 w5 := bstep hbX hbr; obtain ⟨hc5, hf5⟩ := bcell hb5; have hz5_0 : w.heap.size < w5.heap.size := (by have := hb5.size; (try simp at this); omega); have hE5 := Env.keep hE3 hb5) | (go_at_call 158; refine (HP.out _ hE5).mono ?_; rintro e w6 hpp; obtain ⟨hb6, QA, Qc, rfl, hQR, hQA⟩ := HPs.out _ _ _ hpp; clear hpp; obtain ⟨hc6, hf6⟩ := bcell hb6; have hz6_0 : w.heap.size < w6.heap.size := (by have := hb6.size; (try simp at this); omega)) | (go_at_call 78; refine (HN.out _).mono ?_; rintro e w7 ⟨rfl, hb7⟩; obtain ⟨hc7, hf7⟩ := bcell hb7; have hz7_0 : w.heap.size < w7.heap.size := (by have := hb7.size; (try simp at this); omega)))
      exact bodyPost_ret (v := .tuple #[.agg #[.string ⟨#[]⟩, .slice none 0 0, .slice none 0 0], .int .i64 2]) (by simp [results, Tryz.results82, go_sem, *]) rfl ⟨belB, none, 0, none, 0, rfl, Reads.nil_ _ _ _, Reads.nil_ _ _ _, (fun a ha => by cases ha), (fun a ha => by cases ha), Nat.le_refl _⟩
    have hd2 : decide ((16 : Int) < (nq : Int)) = false := by simp; omega
    rw [if_pos ⟨hnp, hnq⟩]
    go_enter Tryz.func82, Tryz.ntmps82; go_wp2_with (first | (go_at_call 153; refine (HL.out _).mono ?_; rintro e w1 ⟨rfl, hb1⟩; obtain ⟨hc1, hf1⟩ := bcell hb1; have hz1_0 : w.heap.size < w1.heap.size := (by have := hb1.size; (try simp at this); omega); have hE1 := Env.keep (Env.keep hE (balloc (Below.refl _ _) _)) hb1) | (go_at_call 58; refine (HC1.out _ hE1).mono ?_; rintro e w2 ⟨rfl, hb2⟩; obtain ⟨hc2, hf2⟩ := bcell hb2; have hz2_0 : w.heap.size < w2.heap.size := (by have := hb2.size; (try simp at this); omega); have hE2 := Env.keep hE1 hb2; clear hE1) | (go_at_call 154; refine (HT.out _).mono ?_; rintro e wt ⟨rfl, hwt⟩; rw [hwt]; clear hwt wt) | (go_at_call 58; refine (HC2.out _ hE2).mono ?_; rintro e w3 ⟨rfl, hb3⟩; obtain ⟨hc3, hf3⟩ := bcell hb3; have hz3_0 : w.heap.size < w3.heap.size := (by have := hb3.size; (try simp at this); omega); have hE3 := Env.keep hE2 hb3) | (go_at_call 155; refine (splitSeq_any _ _ _).mono ?_; rintro e X ⟨rfl, hX⟩; have cR := resolve_parts R w3 X hX hR; have hbX : Below w3.heap.size w3 X := (by rw [hX]; exact balloc (balloc (balloc (Below.refl _ _) _) _) _); clear hX) | (go_at_call 157; refine (resolve_none _).mono ?_; rintro e w5 hres; rw [← HR0.out (by simp)] at hres; obtain ⟨hbr, PA, Pc, rfl, hPR, hPA, hPc⟩ := HRs.out _ _ _ _ hres; clear hres cR; have hb5 : Below w3.heap.size w3 w5 := bstep hbX hbr; obtain ⟨hc5, hf5⟩ := bcell hb5; have hz5_0 : w.heap.size < w5.heap.size := (by have := hb5.size; (try simp at this); omega); have hE5 := Env.keep hE3 hb5) | (go_at_call 158; refine (HP.out _ hE5).mono ?_; rintro e w6 hpp; obtain ⟨hb6, QA, Qc, rfl, hQR, hQA⟩ := HPs.out _ _ _ hpp; clear hpp; obtain ⟨hc6, hf6⟩ := bcell hb6; have hz6_0 : w.heap.size < w6.heap.size := (by have := hb6.size; (try simp at this); omega)) | (go_at_call 78; refine (HN.out _).mono ?_; rintro e w7 ⟨rfl, hb7⟩; obtain ⟨hc7, hf7⟩ := bcell hb7; have hz7_0 : w.heap.size < w7.heap.size := (by have := hb7.size; (try simp at this); omega)))
    have hXz := hbX.size; have hA1 : ∀ a, PA = some a → a.block ≠ w.heap.size := (fun a ha => by have := hPA a ha; omega); have hB1 : ∀ a, QA = some a → a.block ≠ w.heap.size := (fun a ha => by have := hQA a ha; omega); refine bodyPost_ret (v := .tuple #[.agg #[.string C, .slice PA np Pc, .slice QA nq Qc], .int .i64 0]) (by simp [results, Tryz.results82, go_sem, *]) rfl ⟨belB, PA, Pc, QA, Qc, by rw [HPL.out, HQL.out], by rw [HPL.out]; exact ((((hPR.keep (bstep hb6 hb7)).set_ _ _ hA1).set_ _ _ hA1).set_ _ _ hA1), by rw [HQL.out]; exact ((((hQR.keep hb7).set_ _ _ hB1).set_ _ _ hB1).set_ _ _ hB1), fun a ha => by have := hPA a ha; omega, fun a ha => by have := hQA a ha; omega, by rw [HPL.out]; exact hPc⟩
  · cases nm
    · simp only [Bool.false_and, Bool.false_eq_true, if_false]
      go_enter Tryz.func82, Tryz.ntmps82; go_wp2_with (first | (go_at_call 153; refine (HL.out _).mono ?_; rintro e w1 ⟨rfl, hb1⟩; obtain ⟨hc1, hf1⟩ := bcell hb1; have hz1_0 : w.heap.size < w1.heap.size := (by have := hb1.size; (try simp at this); omega); have hE1 := Env.keep (Env.keep hE (balloc (Below.refl _ _) _)) hb1) | (go_at_call 58; refine (HC1.out _ hE1).mono ?_; rintro e w2 ⟨rfl, hb2⟩; obtain ⟨hc2, hf2⟩ := bcell hb2; have hz2_0 : w.heap.size < w2.heap.size := (by have := hb2.size; (try simp at this); omega); have hE2 := Env.keep hE1 hb2; clear hE1) | (go_at_call 154; refine (HT.out _).mono ?_; rintro e wt ⟨rfl, hwt⟩; rw [hwt]; clear hwt wt) | (go_at_call 58; refine (HC2.out _ hE2).mono ?_; rintro e w3 ⟨rfl, hb3⟩; obtain ⟨hc3, hf3⟩ := bcell hb3; have hz3_0 : w.heap.size < w3.heap.size := (by have := hb3.size; (try simp at this); omega); have hE3 := Env.keep hE2 hb3) | (go_at_call 155; refine (splitSeq_any _ _ _).mono ?_; rintro e X ⟨rfl, hX⟩; have cR := resolve_parts R w3 X hX hR; have hbX : Below w3.heap.size w3 X := (by rw [hX]; exact balloc (balloc (balloc (Below.refl _ _) _) _) _); clear hX) | (go_at_call 157; refine cR.mono ?_; rintro e w5 hres; rw [HRR.out (by simp)] at hres; obtain ⟨hbr, PA, Pc, rfl, hPR, hPA, hPc⟩ := HRs.out _ _ _ _ hres; clear hres cR; have hb5 : Below w3.heap.size w3 w5 := hbX.trans hbr; obtain ⟨hc5, hf5⟩ := bcell hb5; have hz5_0 : w.heap.size < w5.heap.size := (by have := hb5.size; (try simp at this); omega); have hE5 := Env.keep hE3 hb5) | (go_at_call 158; refine (HP.out _ hE5).mono ?_; rintro e w6 hpp; obtain ⟨hb6, QA, Qc, rfl, hQR, hQA⟩ := HPs.out _ _ _ hpp; clear hpp; obtain ⟨hc6, hf6⟩ := bcell hb6; have hz6_0 : w.heap.size < w6.heap.size := (by have := hb6.size; (try simp at this); omega)) | (go_at_call 78; refine (HN.out _).mono ?_; rintro e w7 ⟨rfl, hb7⟩; obtain ⟨hc7, hf7⟩ := bcell hb7; have hz7_0 : w.heap.size < w7.heap.size := (by have := hb7.size; (try simp at this); omega)))
      exact bodyPost_ret (v := .tuple #[.agg #[.string ⟨#[]⟩, .slice none 0 0, .slice none 0 0], .int .i64 3]) (by simp [results, Tryz.results82, go_sem, *]) rfl ⟨belB, none, 0, none, 0, rfl, Reads.nil_ _ _ _, Reads.nil_ _ _ _, (fun a ha => by cases ha), (fun a ha => by cases ha), Nat.le_refl _⟩
    cases o1
    · simp only [Bool.true_and, Bool.false_and, Bool.false_eq_true, if_false]
      go_enter Tryz.func82, Tryz.ntmps82; go_wp2_with (first | (go_at_call 153; refine (HL.out _).mono ?_; rintro e w1 ⟨rfl, hb1⟩; obtain ⟨hc1, hf1⟩ := bcell hb1; have hz1_0 : w.heap.size < w1.heap.size := (by have := hb1.size; (try simp at this); omega); have hE1 := Env.keep (Env.keep hE (balloc (Below.refl _ _) _)) hb1) | (go_at_call 58; refine (HC1.out _ hE1).mono ?_; rintro e w2 ⟨rfl, hb2⟩; obtain ⟨hc2, hf2⟩ := bcell hb2; have hz2_0 : w.heap.size < w2.heap.size := (by have := hb2.size; (try simp at this); omega); have hE2 := Env.keep hE1 hb2; clear hE1) | (go_at_call 154; refine (HT.out _).mono ?_; rintro e wt ⟨rfl, hwt⟩; rw [hwt]; clear hwt wt) | (go_at_call 58; refine (HC2.out _ hE2).mono ?_; rintro e w3 ⟨rfl, hb3⟩; obtain ⟨hc3, hf3⟩ := bcell hb3; have hz3_0 : w.heap.size < w3.heap.size := (by have := hb3.size; (try simp at this); omega); have hE3 := Env.keep hE2 hb3) | (go_at_call 155; refine (splitSeq_any _ _ _).mono ?_; rintro e X ⟨rfl, hX⟩; have cR := resolve_parts R w3 X hX hR; have hbX : Below w3.heap.size w3 X := (by rw [hX]; exact balloc (balloc (balloc (Below.refl _ _) _) _) _); clear hX) | (go_at_call 157; refine cR.mono ?_; rintro e w5 hres; rw [HRR.out (by simp)] at hres; obtain ⟨hbr, PA, Pc, rfl, hPR, hPA, hPc⟩ := HRs.out _ _ _ _ hres; clear hres cR; have hb5 : Below w3.heap.size w3 w5 := hbX.trans hbr; obtain ⟨hc5, hf5⟩ := bcell hb5; have hz5_0 : w.heap.size < w5.heap.size := (by have := hb5.size; (try simp at this); omega); have hE5 := Env.keep hE3 hb5) | (go_at_call 158; refine (HP.out _ hE5).mono ?_; rintro e w6 hpp; obtain ⟨hb6, QA, Qc, rfl, hQR, hQA⟩ := HPs.out _ _ _ hpp; clear hpp; obtain ⟨hc6, hf6⟩ := bcell hb6; have hz6_0 : w.heap.size < w6.heap.size := (by have := hb6.size; (try simp at this); omega)) | (go_at_call 78; refine (HN.out _).mono ?_; rintro e w7 ⟨rfl, hb7⟩; obtain ⟨hc7, hf7⟩ := bcell hb7; have hz7_0 : w.heap.size < w7.heap.size := (by have := hb7.size; (try simp at this); omega)))
      exact bodyPost_ret (v := .tuple #[.agg #[.string ⟨#[]⟩, .slice none 0 0, .slice none 0 0], .int .i64 3]) (by simp [results, Tryz.results82, go_sem, *]) rfl ⟨belB, none, 0, none, 0, rfl, Reads.nil_ _ _ _, Reads.nil_ _ _ _, (fun a ha => by cases ha), (fun a ha => by cases ha), Nat.le_refl _⟩
    cases o2
    · simp only [Bool.true_and, Bool.and_false, Bool.false_eq_true, if_false]
      go_enter Tryz.func82, Tryz.ntmps82; go_wp2_with (first | (go_at_call 153; refine (HL.out _).mono ?_; rintro e w1 ⟨rfl, hb1⟩; obtain ⟨hc1, hf1⟩ := bcell hb1; have hz1_0 : w.heap.size < w1.heap.size := (by have := hb1.size; (try simp at this); omega); have hE1 := Env.keep (Env.keep hE (balloc (Below.refl _ _) _)) hb1) | (go_at_call 58; refine (HC1.out _ hE1).mono ?_; rintro e w2 ⟨rfl, hb2⟩; obtain ⟨hc2, hf2⟩ := bcell hb2; have hz2_0 : w.heap.size < w2.heap.size := (by have := hb2.size; (try simp at this); omega); have hE2 := Env.keep hE1 hb2; clear hE1) | (go_at_call 154; refine (HT.out _).mono ?_; rintro e wt ⟨rfl, hwt⟩; rw [hwt]; clear hwt wt) | (go_at_call 58; refine (HC2.out _ hE2).mono ?_; rintro e w3 ⟨rfl, hb3⟩; obtain ⟨hc3, hf3⟩ := bcell hb3; have hz3_0 : w.heap.size < w3.heap.size := (by have := hb3.size; (try simp at this); omega); have hE3 := Env.keep hE2 hb3) | (go_at_call 155; refine (splitSeq_any _ _ _).mono ?_; rintro e X ⟨rfl, hX⟩; have cR := resolve_parts R w3 X hX hR; have hbX : Below w3.heap.size w3 X := (by rw [hX]; exact balloc (balloc (balloc (Below.refl _ _) _) _) _); clear hX) | (go_at_call 157; refine cR.mono ?_; rintro e w5 hres; rw [HRR.out (by simp)] at hres; obtain ⟨hbr, PA, Pc, rfl, hPR, hPA, hPc⟩ := HRs.out _ _ _ _ hres; clear hres cR; have hb5 : Below w3.heap.size w3 w5 := hbX.trans hbr; obtain ⟨hc5, hf5⟩ := bcell hb5; have hz5_0 : w.heap.size < w5.heap.size := (by have := hb5.size; (try simp at this); omega); have hE5 := Env.keep hE3 hb5) | (go_at_call 158; refine (HP.out _ hE5).mono ?_; rintro e w6 hpp; obtain ⟨hb6, QA, Qc, rfl, hQR, hQA⟩ := HPs.out _ _ _ hpp; clear hpp; obtain ⟨hc6, hf6⟩ := bcell hb6; have hz6_0 : w.heap.size < w6.heap.size := (by have := hb6.size; (try simp at this); omega)) | (go_at_call 78; refine (HN.out _).mono ?_; rintro e w7 ⟨rfl, hb7⟩; obtain ⟨hc7, hf7⟩ := bcell hb7; have hz7_0 : w.heap.size < w7.heap.size := (by have := hb7.size; (try simp at this); omega)))
      exact bodyPost_ret (v := .tuple #[.agg #[.string ⟨#[]⟩, .slice none 0 0, .slice none 0 0], .int .i64 3]) (by simp [results, Tryz.results82, go_sem, *]) rfl ⟨belB, none, 0, none, 0, rfl, Reads.nil_ _ _ _, Reads.nil_ _ _ _, (fun a ha => by cases ha), (fun a ha => by cases ha), Nat.le_refl _⟩
    simp only [Bool.and_self, if_true]
    by_cases hnp : np ≤ 32
    rotate_left
    · rw [if_neg (fun h => hnp h.1)]
      have hd1 : decide ((32 : Int) < (np : Int)) = true := by simp; omega
      go_enter Tryz.func82, Tryz.ntmps82; go_wp2_with (first | (go_at_call 153; refine (HL.out _).mono ?_; rintro e w1 ⟨rfl, hb1⟩; obtain ⟨hc1, hf1⟩ := bcell hb1; have hz1_0 : w.heap.size < w1.heap.size := (by have := hb1.size; (try simp at this); omega); have hE1 := Env.keep (Env.keep hE (balloc (Below.refl _ _) _)) hb1) | (go_at_call 58; refine (HC1.out _ hE1).mono ?_; rintro e w2 ⟨rfl, hb2⟩; obtain ⟨hc2, hf2⟩ := bcell hb2; have hz2_0 : w.heap.size < w2.heap.size := (by have := hb2.size; (try simp at this); omega); have hE2 := Env.keep hE1 hb2; clear hE1) | (go_at_call 154; refine (HT.out _).mono ?_; rintro e wt ⟨rfl, hwt⟩; rw [hwt]; clear hwt wt) | (go_at_call 58; refine (HC2.out _ hE2).mono ?_; rintro e w3 ⟨rfl, hb3⟩; obtain ⟨hc3, hf3⟩ := bcell hb3; have hz3_0 : w.heap.size < w3.heap.size := (by have := hb3.size; (try simp at this); omega); have hE3 := Env.keep hE2 hb3) | (go_at_call 155; refine (splitSeq_any _ _ _).mono ?_; rintro e X ⟨rfl, hX⟩; have cR := resolve_parts R w3 X hX hR; have hbX : Below w3.heap.size w3 X := (by rw [hX]; exact balloc (balloc (balloc (Below.refl _ _) _) _) _); clear hX) | (go_at_call 157; refine cR.mono ?_; rintro e w5 hres; rw [HRR.out (by simp)] at hres; obtain ⟨hbr, PA, Pc, rfl, hPR, hPA, hPc⟩ := HRs.out _ _ _ _ hres; clear hres cR; have hb5 : Below w3.heap.size w3 w5 := hbX.trans hbr; obtain ⟨hc5, hf5⟩ := bcell hb5; have hz5_0 : w.heap.size < w5.heap.size := (by have := hb5.size; (try simp at this); omega); have hE5 := Env.keep hE3 hb5) | (go_at_call 158; refine (HP.out _ hE5).mono ?_; rintro e w6 hpp; obtain ⟨hb6, QA, Qc, rfl, hQR, hQA⟩ := HPs.out _ _ _ hpp; clear hpp; obtain ⟨hc6, hf6⟩ := bcell hb6; have hz6_0 : w.heap.size < w6.heap.size := (by have := hb6.size; (try simp at this); omega)) | (go_at_call 78; refine (HN.out _).mono ?_; rintro e w7 ⟨rfl, hb7⟩; obtain ⟨hc7, hf7⟩ := bcell hb7; have hz7_0 : w.heap.size < w7.heap.size := (by have := hb7.size; (try simp at this); omega)))
      exact bodyPost_ret (v := .tuple #[.agg #[.string ⟨#[]⟩, .slice none 0 0, .slice none 0 0], .int .i64 2]) (by simp [results, Tryz.results82, go_sem, *]) rfl ⟨belB, none, 0, none, 0, rfl, Reads.nil_ _ _ _, Reads.nil_ _ _ _, (fun a ha => by cases ha), (fun a ha => by cases ha), Nat.le_refl _⟩
    have hd1 : decide ((32 : Int) < (np : Int)) = false := by simp; omega
    by_cases hnq : nq ≤ 16
    rotate_left
    · rw [if_neg (fun h => hnq h.2)]
      have hd2 : decide ((16 : Int) < (nq : Int)) = true := by simp; omega
      go_enter Tryz.func82, Tryz.ntmps82; go_wp2_with (first | (go_at_call 153; refine (HL.out _).mono ?_; rintro e w1 ⟨rfl, hb1⟩; obtain ⟨hc1, hf1⟩ := bcell hb1; have hz1_0 : w.heap.size < w1.heap.size := (by have := hb1.size; (try simp at this); omega); have hE1 := Env.keep (Env.keep hE (balloc (Below.refl _ _) _)) hb1) | (go_at_call 58; refine (HC1.out _ hE1).mono ?_; rintro e w2 ⟨rfl, hb2⟩; obtain ⟨hc2, hf2⟩ := bcell hb2; have hz2_0 : w.heap.size < w2.heap.size := (by have := hb2.size; (try simp at this); omega); have hE2 := Env.keep hE1 hb2; clear hE1) | (go_at_call 154; refine (HT.out _).mono ?_; rintro e wt ⟨rfl, hwt⟩; rw [hwt]; clear hwt wt) | (go_at_call 58; refine (HC2.out _ hE2).mono ?_; rintro e w3 ⟨rfl, hb3⟩; obtain ⟨hc3, hf3⟩ := bcell hb3; have hz3_0 : w.heap.size < w3.heap.size := (by have := hb3.size; (try simp at this); omega); have hE3 := Env.keep hE2 hb3) | (go_at_call 155; refine (splitSeq_any _ _ _).mono ?_; rintro e X ⟨rfl, hX⟩; have cR := resolve_parts R w3 X hX hR; have hbX : Below w3.heap.size w3 X := (by rw [hX]; exact balloc (balloc (balloc (Below.refl _ _) _) _) _); clear hX) | (go_at_call 157; refine cR.mono ?_; rintro e w5 hres; rw [HRR.out (by simp)] at hres; obtain ⟨hbr, PA, Pc, rfl, hPR, hPA, hPc⟩ := HRs.out _ _ _ _ hres; clear hres cR; have hb5 : Below w3.heap.size w3 w5 := hbX.trans hbr; obtain ⟨hc5, hf5⟩ := bcell hb5; have hz5_0 : w.heap.size < w5.heap.size := (by have := hb5.size; (try simp at this); omega); have hE5 := Env.keep hE3 hb5) | (go_at_call 158; refine (HP.out _ hE5).mono ?_; rintro e w6 hpp; obtain ⟨hb6, QA, Qc, rfl, hQR, hQA⟩ := HPs.out _ _ _ hpp; clear hpp; obtain ⟨hc6, hf6⟩ := bcell hb6; have hz6_0 : w.heap.size < w6.heap.size := (by have := hb6.size; (try simp at this); omega)) | (go_at_call 78; refine (HN.out _).mono ?_; rintro e w7 ⟨rfl, hb7⟩; obtain ⟨hc7, hf7⟩ := bcell hb7; have hz7_0 : w.heap.size < w7.heap.size := (by have := hb7.size; (try simp at this); omega)))
      exact bodyPost_ret (v := .tuple #[.agg #[.string ⟨#[]⟩, .slice none 0 0, .slice none 0 0], .int .i64 2]) (by simp [results, Tryz.results82, go_sem, *]) rfl ⟨belB, none, 0, none, 0, rfl, Reads.nil_ _ _ _, Reads.nil_ _ _ _, (fun a ha => by cases ha), (fun a ha => by cases ha), Nat.le_refl _⟩
    have hd2 : decide ((16 : Int) < (nq : Int)) = false := by simp; omega
    rw [if_pos ⟨hnp, hnq⟩]
    go_enter Tryz.func82, Tryz.ntmps82; go_wp2_with (first | (go_at_call 153; refine (HL.out _).mono ?_; rintro e w1 ⟨rfl, hb1⟩; obtain ⟨hc1, hf1⟩ := bcell hb1; have hz1_0 : w.heap.size < w1.heap.size := (by have := hb1.size; (try simp at this); omega); have hE1 := Env.keep (Env.keep hE (balloc (Below.refl _ _) _)) hb1) | (go_at_call 58; refine (HC1.out _ hE1).mono ?_; rintro e w2 ⟨rfl, hb2⟩; obtain ⟨hc2, hf2⟩ := bcell hb2; have hz2_0 : w.heap.size < w2.heap.size := (by have := hb2.size; (try simp at this); omega); have hE2 := Env.keep hE1 hb2; clear hE1) | (go_at_call 154; refine (HT.out _).mono ?_; rintro e wt ⟨rfl, hwt⟩; rw [hwt]; clear hwt wt) | (go_at_call 58; refine (HC2.out _ hE2).mono ?_; rintro e w3 ⟨rfl, hb3⟩; obtain ⟨hc3, hf3⟩ := bcell hb3; have hz3_0 : w.heap.size < w3.heap.size := (by have := hb3.size; (try simp at this); omega); have hE3 := Env.keep hE2 hb3) | (go_at_call 155; refine (splitSeq_any _ _ _).mono ?_; rintro e X ⟨rfl, hX⟩; have cR := resolve_parts R w3 X hX hR; have hbX : Below w3.heap.size w3 X := (by rw [hX]; exact balloc (balloc (balloc (Below.refl _ _) _) _) _); clear hX) | (go_at_call 157; refine cR.mono ?_; rintro e w5 hres; rw [HRR.out (by simp)] at hres; obtain ⟨hbr, PA, Pc, rfl, hPR, hPA, hPc⟩ := HRs.out _ _ _ _ hres; clear hres cR; have hb5 : Below w3.heap.size w3 w5 := hbX.trans hbr; obtain ⟨hc5, hf5⟩ := bcell hb5; have hz5_0 : w.heap.size < w5.heap.size := (by have := hb5.size; (try simp at this); omega); have hE5 := Env.keep hE3 hb5) | (go_at_call 158; refine (HP.out _ hE5).mono ?_; rintro e w6 hpp; obtain ⟨hb6, QA, Qc, rfl, hQR, hQA⟩ := HPs.out _ _ _ hpp; clear hpp; obtain ⟨hc6, hf6⟩ := bcell hb6; have hz6_0 : w.heap.size < w6.heap.size := (by have := hb6.size; (try simp at this); omega)) | (go_at_call 78; refine (HN.out _).mono ?_; rintro e w7 ⟨rfl, hb7⟩; obtain ⟨hc7, hf7⟩ := bcell hb7; have hz7_0 : w.heap.size < w7.heap.size := (by have := hb7.size; (try simp at this); omega)))
    have hXz := hbX.size; have hA1 : ∀ a, PA = some a → a.block ≠ w.heap.size := (fun a ha => by have := hPA a ha; omega); have hB1 : ∀ a, QA = some a → a.block ≠ w.heap.size := (fun a ha => by have := hQA a ha; omega); refine bodyPost_ret (v := .tuple #[.agg #[.string C, .slice PA np Pc, .slice QA nq Qc], .int .i64 0]) (by simp [results, Tryz.results82, go_sem, *]) rfl ⟨belB, PA, Pc, QA, Qc, by rw [HPL.out, HQL.out], by rw [HPL.out]; exact ((((hPR.keep (bstep hb6 hb7)).set_ _ _ hA1).set_ _ _ hA1).set_ _ _ hA1), by rw [HQL.out]; exact ((((hQR.keep hb7).set_ _ _ hB1).set_ _ _ hB1).set_ _ _ hB1), fun a ha => by have := hPA a ha; omega, fun a ha => by have := hQA a ha; omega, by rw [HPL.out]; exact hPc⟩
theorem parse_any (s : ByteArray) (w : World) (hs : s.size ≤ 4294967281) (hE : Env w) : Calls Tryz.prog 82 #[.string s] w (AdrPost (parseB s) w) := by
  by_cases h : 4096 < s.size
  · have := parse_long s w h
    unfold parseB
    rw [if_pos h]
    exact this
  have h1 := cut_fst_len (lowL s.data.toList) [63]
  have h2 := cut_snd_len (lowL s.data.toList) [63]
  have h3 := trim_len (leftL s).1 [47]
  have h4 := cut_fst_len (Lib.trimSuffix (leftL s).1 [47]) [47]
  have h5 := cut_snd_len (Lib.trimSuffix (leftL s).1 [47]) [47]
  have h0 := lowL_len s.data.toList
  rw [← Lib.size_eq] at h0
  have := parse_core s (toB (lowL s.data.toList)) (toB (leftL s).1) (toB (leftL s).2.1) (toB (Lib.trimSuffix (leftL s).1 [47])) (toB (custL s).1) (toB (custL s).2.1) (leftL s).2.2 (custL s).2.2 (isNameB (toB (custL s).1)) (pathB (custL s)) (pairsB (toB (leftL s).2.1)) w (by omega) (by rw [toB_size]; unfold custL leftL at *; omega) hE
    (Lib.hid fun W => lower_any s W hs) (Lib.hid fun W h => cut_any (toB (lowL s.data.toList)) 63 W (by rw [toB_size]; omega) h) (Lib.hid fun W => Tryz.strings_TrimSuffix (toB (leftL s).1) ⟨#[47]⟩ W (by rw [toB_size]; unfold leftL; omega))
    (Lib.hid fun W h => cut_any (toB (Lib.trimSuffix (leftL s).1 [47])) 47 W (by rw [toB_size]; unfold leftL at *; omega) h) (Lib.hid fun hm => by unfold pathB; rw [if_pos hm]) (Lib.hid fun hm => by unfold pathB; rw [if_neg (by simp [hm])])
    (Lib.hid fun W h => pairs_any (toB (leftL s).2.1) W (by rw [toB_size]; unfold leftL; omega) h) (Lib.hid fun W => isName_any (toB (custL s).1) W (by rw [toB_size]; unfold custL leftL at *; omega))
  unfold parseB
  rw [if_neg h]
  exact this
end Go.Proofs.YtjhlpkhfdghngaaGreatDoor
namespace Go.Proofs.YtjhlpkhfdghngaaGreatDoor
open Go.RowKit Go.Sort
set_option linter.unusedVariables false
set_option linter.unusedSimpArgs false
set_option maxRecDepth 100000
def pairK (qs : List (ByteArray × ByteArray)) (k : Nat) : Bool :=
  match qs[k]? with
  | none => false
  | some q => isNameB q.1 && isWordB q.2 && (k == 0 || !(Op.bytesLess q.1.toList ((qs[k - 1]?.getD (⟨#[]⟩, ⟨#[]⟩)).1).toList || q.1.toList == ((qs[k - 1]?.getD (⟨#[]⟩, ⟨#[]⟩)).1).toList))
def headOk (c : ByteArray) (xs : List ByteArray) (qs : List (ByteArray × ByteArray)) : Bool :=
  isNameB c && decide (xs.length ≤ 32) && decide (qs.length ≤ 16) && xs.all isWordB
def formedB (c : ByteArray) (xs : List ByteArray) (qs : List (ByteArray × ByteArray)) : Bool :=
  headOk c xs qs && (List.range qs.length).all (pairK qs) && decide ((W06 c xs qs).length ≤ 4096)
def textV (c : ByteArray) (xs : List ByteArray) (qs : List (ByteArray × ByteArray)) : Value :=
  if formedB c xs qs then .tuple #[.string ⟨(W06 c xs qs).toArray⟩, .int .i64 0] else .tuple #[.string ⟨#[]⟩, .int .i64 1]
theorem W06_c (c : ByteArray) (xs : List ByteArray) (qs : List (ByteArray × ByteArray)) : c.size ≤ (W06 c xs qs).length := by
  rw [Lib.size_eq]; simp only [W06, writeL, List.length_append]; omega
theorem pathL_mem : ∀ (l : List (List UInt8)) (x : List UInt8), x ∈ l → x.length ≤ (pathL l).length
  | [], x, h => by cases h
  | a :: l, x, h => by
    simp only [pathL, List.flatMap_cons, List.length_append, List.length_cons]
    rcases List.mem_cons.1 h with rfl | h
    · omega
    · have := pathL_mem l x h; simp only [pathL] at this; omega
theorem queryL_mem : ∀ (sep : UInt8) (l : List (List UInt8 × List UInt8)) (q : List UInt8 × List UInt8), q ∈ l → q.1.length + q.2.length ≤ (queryL sep l).length
  | _, [], q, h => by cases h
  | _, a :: l, q, h => by
    simp only [queryL, List.length_append, List.length_cons]
    rcases List.mem_cons.1 h with rfl | h
    · omega
    · have := queryL_mem 38 l q h; omega
theorem W06_x (c : ByteArray) (xs : List ByteArray) (qs : List (ByteArray × ByteArray)) (x : ByteArray) (hx : x ∈ xs) : x.size ≤ (W06 c xs qs).length := by
  have := pathL_mem (lists xs) x.data.toList (List.mem_map_of_mem hx)
  rw [Lib.size_eq]; simp only [W06, writeL, List.length_append]; omega
theorem W06_q (c : ByteArray) (xs : List ByteArray) (qs : List (ByteArray × ByteArray)) (q : ByteArray × ByteArray) (hq : q ∈ qs) : q.1.size + q.2.size ≤ (W06 c xs qs).length := by
  have := queryL_mem 63 (lists2 qs) (q.1.data.toList, q.2.data.toList) (List.mem_map_of_mem (f := fun q : ByteArray × ByteArray => (q.1.data.toList, q.2.data.toList)) hq)
  dsimp only at this
  rw [Lib.size_eq, Lib.size_eq]; simp only [W06, writeL, List.length_append]; omega
set_option maxHeartbeats 4000000 in
theorem text_any (c : ByteArray) (P Q : Option Addr) (np cp nq cq : Nat) (xs : List ByteArray) (qs : List (ByteArray × ByteArray)) (w : World)
    (hP : Reads w 1 P np (xs.map .string)) (hQ : Reads w 2 Q nq (pairCells qs)) (htot : (W06 c xs qs).length ≤ 1000000000) :
    Calls Tryz.prog 83 #[.agg #[.string c, .slice P np cp, .slice Q nq cq]] w (Ret w (textV c xs qs)) := by
  have hnp : np ≤ xs.length ∧ xs.length ≤ np := by have := hP.1; simp at this; omega
  have hnq : nq ≤ qs.length ∧ qs.length ≤ nq := by have := hQ.1; rw [pairCells_length] at this; omega
  have hc0 : c.size ≤ 1000000000 := by have := W06_c c xs qs; omega
  have hxs : ∀ x ∈ xs, x.size ≤ 1000000000 := fun x hx => by have := W06_x c xs qs x hx; omega
  have hqs : ∀ q ∈ qs, q.1.size ≤ 1000000000 ∧ q.2.size ≤ 1000000000 := fun q hq => by have := W06_q c xs qs q hq; omega
  have hnp9 : np ≤ 1000000000 := by
    have := pathL_len (lists xs)
    simp only [W06, writeL, List.length_append] at htot
    simp only [lists, List.length_map] at this htot
    omega
  have c1 := fun W => isName_any c W (by omega)
  have c2 : ∀ W, Reads W 1 P np (xs.map .string) → Calls Tryz.prog 69 #[.slice P np cp, .func (.func 159) #[] #[]] W (Ret W (.bool (xs.any fun x => !isWordB x))) := fun W h =>
    containsFunc_any 159 (enters_of Tryz.func159 (by kernel_rfl) rfl) (fun x => !isWordB x) P np cp xs W (fun x hx W' => notWord_any x W' (by have := hxs x hx; omega)) h hnp9
  have HP := Lib.hid hP; have HQ := Lib.hid hQ; have HT := Lib.hid htot; have HXS := Lib.hid hxs; have HQS := Lib.hid hqs; have H1 := Lib.hid c1; have H2 := Lib.hid c2
  clear hP hQ htot hxs hqs c1 c2
  cases h1 : isNameB c
  · have hv : textV c xs qs = .tuple #[.string ⟨#[]⟩, .int .i64 1] := by simp [textV, formedB, headOk, h1]
    rw [hv]
    rw [h1] at H1
    clear hv h1
    go_enter Tryz.func83, Tryz.ntmps83
    go_wp2_with (go_at_call 78; refine (H1.out _).mono ?_; rintro e w1 ⟨rfl, hb1⟩; obtain ⟨hc1, hf1⟩ := bcell hb1; have hz1_0 : w.heap.size < w1.heap.size := (by have := hb1.size; (try simp at this); omega))
    go_ret2
    exact ⟨rfl, belB⟩
  by_cases h2 : np ≤ 32
  rotate_left
  · have hv : textV c xs qs = .tuple #[.string ⟨#[]⟩, .int .i64 1] := by simp [textV, formedB, headOk, show ¬ xs.length ≤ 32 by omega]
    rw [hv]
    rw [h1] at H1
    clear hv h1
    go_enter Tryz.func83, Tryz.ntmps83
    go_wp2_with (go_at_call 78; refine (H1.out _).mono ?_; rintro e w1 ⟨rfl, hb1⟩; obtain ⟨hc1, hf1⟩ := bcell hb1; have hz1_0 : w.heap.size < w1.heap.size := (by have := hb1.size; (try simp at this); omega))
    go_ret2
    exact ⟨rfl, belB⟩
  by_cases h3 : nq ≤ 16
  rotate_left
  · have hv : textV c xs qs = .tuple #[.string ⟨#[]⟩, .int .i64 1] := by simp [textV, formedB, headOk, show ¬ qs.length ≤ 16 by omega]
    rw [hv]
    rw [h1] at H1
    clear hv h1
    go_enter Tryz.func83, Tryz.ntmps83
    go_wp2_with (go_at_call 78; refine (H1.out _).mono ?_; rintro e w1 ⟨rfl, hb1⟩; obtain ⟨hc1, hf1⟩ := bcell hb1; have hz1_0 : w.heap.size < w1.heap.size := (by have := hb1.size; (try simp at this); omega))
    go_ret2
    exact ⟨rfl, belB⟩
  cases h4 : xs.all isWordB
  · have hv : textV c xs qs = .tuple #[.string ⟨#[]⟩, .int .i64 1] := by simp [textV, formedB, headOk, h4]
    rw [hv]
    have h5 : (xs.any fun x => !isWordB x) = true := by rw [← List.not_all_eq_any_not, h4]; rfl
    rw [h1] at H1
    rw [h5] at H2
    clear hv h1 h4 h5
    go_enter Tryz.func83, Tryz.ntmps83
    go_wp2_with (first | (go_at_call 78; refine (H1.out _).mono ?_; rintro e w1 ⟨rfl, hb1⟩; obtain ⟨hc1, hf1⟩ := bcell hb1; have hz1_0 : w.heap.size < w1.heap.size := (by have := hb1.size; (try simp at this); omega)) | (go_at_call 69; refine (H2.out _ (HP.out.keep (blater _ hb1))).mono ?_; rintro e w2 ⟨rfl, hb2⟩; obtain ⟨hc2, hf2⟩ := bcell hb2; have hz2_0 : w.heap.size < w2.heap.size := (by have := hb2.size; (try simp at this); omega)))
    go_ret2
    exact ⟨rfl, belB⟩
  have h5 : (xs.any fun x => !isWordB x) = false := by rw [← List.not_all_eq_any_not, h4]; rfl
  have hv : textV c xs qs = if (List.range nq).all (pairK qs) && decide ((W06 c xs qs).length ≤ 4096) then .tuple #[.string ⟨(W06 c xs qs).toArray⟩, .int .i64 0] else .tuple #[.string ⟨#[]⟩, .int .i64 1] := by
    obtain rfl : nq = qs.length := by omega
    simp [textV, formedB, headOk, h1, h4, show xs.length ≤ 32 by omega, show qs.length ≤ 16 by omega]
  rw [h1] at H1
  rw [h5] at H2
  have HV := Lib.hid hv
  obtain ⟨V, hV⟩ : ∃ V, V = textV c xs qs := ⟨_, rfl⟩
  rw [← hV] at HV ⊢
  clear hv h1 h4 h5 hV
  have d1 : decide ((32 : Int) < (np : Int)) = false := by simp; omega
  have d2 : decide ((16 : Int) < (nq : Int)) = false := by simp; omega
  go_enter Tryz.func83, Tryz.ntmps83
  go_wp2_with (first | (go_at_call 78; refine (H1.out _).mono ?_; rintro e w1 ⟨rfl, hb1⟩; obtain ⟨hc1, hf1⟩ := bcell hb1; have hz1_0 : w.heap.size < w1.heap.size := (by have := hb1.size; (try simp at this); omega)) | (go_at_call 69; refine (H2.out _ (HP.out.keep (blater _ hb1))).mono ?_; rintro e w2 ⟨rfl, hb2⟩; obtain ⟨hc2, hf2⟩ := bcell hb2; have hz2_0 : w.heap.size < w2.heap.size := (by have := hb2.size; (try simp at this); omega)))
  obtain ⟨W0, hW0⟩ : ∃ W0, W0 = w.alloc (.cells #[.string c, .slice P np cp, .slice Q nq cq] 117) := ⟨_, rfl⟩
  rw [← hW0] at hb1
  have HW0 := Lib.hid hW0
  have hbw2 := bstep hb1 hb2
  clear hc1 hf1 hz1_0 hc2 hf2 hz2_0 hb1 hb2 hW0 H1 H2
  go_loopw [31] (fun i wr => ∃ k : Nat, k ≤ nq ∧ i = .int .i64 k ∧ Hid ((List.range k).all (pairK qs) = true) ∧ Below W0.heap.size W0 wr) (fun i _ => nq - (intOf i).toNat)
  case atStart => exact ⟨0, by omega, rfl, Lib.hid rfl, hbw2⟩
  case round =>
    clear hbw2
    obtain ⟨k, hk, rfl, HA, hb⟩ := hrel
    have hb' := hb
    rw [HW0.out] at hb'
    have hbw : Below w.heap.size w wr := blater _ hb'
    have a0 : wr.cell? ⟨w.heap.size, 0, none⟩ = some (.string c) := by rw [hb'.cell (by simp)]; simp [go_sem]
    have a1 : wr.cell? ⟨w.heap.size, 1, none⟩ = some (.slice P np cp) := by rw [hb'.cell (by simp)]; simp [go_sem]
    have a2 : wr.cell? ⟨w.heap.size, 2, none⟩ = some (.slice Q nq cq) := by rw [hb'.cell (by simp)]; simp [go_sem]
    clear hb'
    by_cases hlt : k < nq
    · have hQr := HQ.out.keep hbw
      obtain ⟨pb, po, rfl, hcell⟩ := hQr.2 (by omega)
      clear hQr
      have hql : k < qs.length := by omega
      obtain ⟨q, hq⟩ : ∃ q, qs[k]? = some q := ⟨_, List.getElem?_eq_getElem hql⟩
      obtain ⟨e1, e2⟩ := pairCells_at qs k q hq
      have hc1 : wr.cell? ⟨pb, po + k * 2, none⟩ = _ := hcell _ _ e1
      have hc2 : wr.cell? ⟨pb, po + k * 2 + 1, none⟩ = _ := hcell _ _ e2
      have hsz := HQS.out q (List.mem_of_getElem? hq)
      have cN := fun W => isName_any q.1 W (by omega)
      have cV := fun W => isWord_any q.2 W (by omega)
      have hpk : pairK qs k = (isNameB q.1 && isWordB q.2 && (k == 0 || !(Op.bytesLess q.1.toList ((qs[k - 1]?.getD (⟨#[]⟩, ⟨#[]⟩)).1).toList || q.1.toList == ((qs[k - 1]?.getD (⟨#[]⟩, ⟨#[]⟩)).1).toList))) := by simp [pairK, hq]
      obtain ⟨q1, q2⟩ := q
      dsimp only at hc1 hc2 hsz cN cV hpk
      have HC := Lib.hid hcell; have HK := Lib.hid hpk
      clear hcell e1 e2 hq hpk hql
      have f1 : (wr.alloc (.cells #[.string q1, .string q2] 215)).cell? ⟨wr.heap.size, 0, none⟩ = some (.string q1) := by simp [go_sem]
      have f2 : (wr.alloc (.cells #[.string q1, .string q2] 215)).cell? ⟨wr.heap.size, 1, none⟩ = some (.string q2) := by simp [go_sem]
      have f3 : (wr.alloc (.cells #[.string q1, .string q2] 215)).cell? ⟨w.heap.size, 2, none⟩ = some (.slice (some ⟨pb, po, none⟩) nq cq) := cell_keep (balloc (Below.refl _ _) _) a2
      have hfalse : pairK qs k = false → V = .tuple #[.string ⟨#[]⟩, .int .i64 1] := by
        intro hf
        have hall : (List.range nq).all (pairK qs) = false := by
          rw [List.all_eq_false]
          exact ⟨k, by simpa using hlt, by rw [hf]; simp⟩
        rw [HV.out, hall]
        simp
      have htrue : pairK qs k = true → (List.range (k + 1)).all (pairK qs) = true := by
        intro ht
        rw [List.range_succ, List.all_append, HA.out]
        simp [ht]
      have HF := Lib.hid hfalse; have HTr := Lib.hid htrue
      clear hfalse htrue
      cases h1 : isNameB q1
      · have hv := HF.out (by rw [HK.out, h1]; simp)
        subst hv
        rw [h1] at cN
        have HN := Lib.hid cN
        clear cN cV h1
        go_wp2_with fail
        have k1 := cell_regrown f1; have k2 := cell_regrown f2; have k3 := cell_regrown f3
        refine wp_region_quiet_below (by kernel_rfl) (by kernel_rfl) ?_; (repeat (any_goals (first | go_big_quiet_step ((first | exact qcalls HN.out _ _)) | quiet_step ((first | exact qcalls HN.out _ _))))); refine wpQuiet_nil ?_; intro _ hwq; obtain ⟨⟨dq, osq⟩, hwq⟩ := hwq; subst hwq; have hb3 := below_regrown (wr.alloc (.cells #[.string q1, .string q2] 215)) dq osq; generalize grow (redrawn (wr.alloc (.cells #[.string q1, .string q2] 215)) dq) osq = w3 at *
        go_wp2
        go_ret2
        exact ⟨rfl, belB⟩
      cases h2 : isWordB q2
      · have hv := HF.out (by rw [HK.out, h2]; simp)
        subst hv
        rw [h1] at cN
        rw [h2] at cV
        have HN := Lib.hid cN; have HW := Lib.hid cV
        clear cN cV h1 h2
        go_wp2_with fail
        have k1 := cell_regrown f1; have k2 := cell_regrown f2; have k3 := cell_regrown f3
        refine wp_region_quiet_below (by kernel_rfl) (by kernel_rfl) ?_; (repeat (any_goals (first | go_big_quiet_step ((first | exact qcalls HN.out _ _ | exact qcalls HW.out _ _)) | quiet_step ((first | exact qcalls HN.out _ _ | exact qcalls HW.out _ _))))); refine wpQuiet_nil ?_; intro _ hwq; obtain ⟨⟨dq, osq⟩, hwq⟩ := hwq; subst hwq; have hb3 := below_regrown (wr.alloc (.cells #[.string q1, .string q2] 215)) dq osq; generalize grow (redrawn (wr.alloc (.cells #[.string q1, .string q2] 215)) dq) osq = w3 at *
        go_wp2
        go_ret2
        exact ⟨rfl, belB⟩
      rw [h1] at cN
      rw [h2] at cV
      have HN := Lib.hid cN; have HW := Lib.hid cV
      clear cN cV
      rcases k with _ | j
      · have hok := HTr.out (by rw [HK.out, h1, h2]; simp)
        have HO := Lib.hid hok
        have hc1' : wr.cell? ⟨pb, po, none⟩ = some (.string q1) := by simpa using hc1
        have hc2' : wr.cell? ⟨pb, po + 1, none⟩ = some (.string q2) := by simpa using hc2
        clear hok h1 h2 hc1 hc2
        go_wp2_with fail
        have k1 := cell_regrown f1; have k2 := cell_regrown f2; have k3 := cell_regrown f3
        refine wp_region_quiet_below (by kernel_rfl) (by kernel_rfl) ?_; (repeat (any_goals (first | go_big_quiet_step ((first | exact qcalls HN.out _ _ | exact qcalls HW.out _ _)) | quiet_step ((first | exact qcalls HN.out _ _ | exact qcalls HW.out _ _))))); refine wpQuiet_nil ?_; intro _ hwq; obtain ⟨⟨dq, osq⟩, hwq⟩ := hwq; subst hwq; have hb3 := below_regrown (wr.alloc (.cells #[.string q1, .string q2] 215)) dq osq; generalize grow (redrawn (wr.alloc (.cells #[.string q1, .string q2] 215)) dq) osq = w3 at *
        go_wp2
        exact ⟨⟨1, by omega, rfl, HO, belB⟩, by simp [intOf]; omega⟩
      · obtain ⟨q0, hq0⟩ : ∃ q, qs[j]? = some q := ⟨_, List.getElem?_eq_getElem (by omega)⟩
        have hg : (qs[j + 1 - 1]?.getD (⟨#[]⟩, ⟨#[]⟩)).1 = q0.1 := by rw [Nat.add_sub_cancel, hq0]; rfl
        have hc4 : wr.cell? ⟨pb, po + j * 2, none⟩ = _ := HC.out _ _ (pairCells_at qs j q0 hq0).1
        have hsz0 := (HQS.out q0 (List.mem_of_getElem? hq0)).1
        obtain ⟨q0, v0⟩ := q0
        dsimp only at hc4 hg hsz0
        have f4 : (wr.alloc (.cells #[.string q1, .string q2] 215)).cell? ⟨pb, po + j * 2, none⟩ = some (.string q0) := cell_keep (balloc (Below.refl _ _) _) hc4
        have hpk := HK.out
        rw [hg, h1, h2] at hpk
        clear HK hc4 hg hq0 h1 h2
        obtain ⟨t, ht⟩ : ∃ t, (Op.bytesLess q1.toList q0.toList || q1.toList == q0.toList) = t := ⟨_, rfl⟩
        rw [ht] at hpk
        cases t
        · have HO := Lib.hid (HTr.out (by rw [hpk]; simp))
          clear hpk HF HTr
          go_wp2_with fail
          have k1 := cell_regrown f1; have k2 := cell_regrown f2; have k3 := cell_regrown f3; have k4 := cell_regrown f4
          refine wp_region_quiet_below (by kernel_rfl) (by kernel_rfl) ?_; (repeat (any_goals (first | go_big_quiet_step ((first | exact qcalls HN.out _ _ | exact qcalls HW.out _ _)) | quiet_step ((first | exact qcalls HN.out _ _ | exact qcalls HW.out _ _))))); refine wpQuiet_nil ?_; intro _ hwq; obtain ⟨⟨dq, osq⟩, hwq⟩ := hwq; subst hwq; have hb3 := below_regrown (wr.alloc (.cells #[.string q1, .string q2] 215)) dq osq; generalize grow (redrawn (wr.alloc (.cells #[.string q1, .string q2] 215)) dq) osq = w3 at *
          go_wp2
          exact ⟨⟨j + 1 + 1, by omega, by go_num, HO, belB⟩, by simp [intOf]; omega⟩
        · have hv := HF.out (by rw [hpk]; simp)
          subst hv
          clear hpk HF HTr
          go_wp2_with fail
          have k1 := cell_regrown f1; have k2 := cell_regrown f2; have k3 := cell_regrown f3; have k4 := cell_regrown f4
          refine wp_region_quiet_below (by kernel_rfl) (by kernel_rfl) ?_; (repeat (any_goals (first | go_big_quiet_step ((first | exact qcalls HN.out _ _ | exact qcalls HW.out _ _)) | quiet_step ((first | exact qcalls HN.out _ _ | exact qcalls HW.out _ _))))); refine wpQuiet_nil ?_; intro _ hwq; obtain ⟨⟨dq, osq⟩, hwq⟩ := hwq; subst hwq; have hb3 := below_regrown (wr.alloc (.cells #[.string q1, .string q2] 215)) dq osq; generalize grow (redrawn (wr.alloc (.cells #[.string q1, .string q2] 215)) dq) osq = w3 at *
          go_wp2
          go_ret2
          exact ⟨rfl, belB⟩
    · obtain rfl : k = nq := by omega
      have hv := HV.out
      rw [HA.out, Bool.true_and] at hv
      have hsz : (⟨(W06 c xs qs).toArray⟩ : ByteArray).size = (W06 c xs qs).length := by simp [Lib.size_eq]
      obtain ⟨s, hs⟩ : ∃ s : ByteArray, s = ⟨(W06 c xs qs).toArray⟩ := ⟨_, rfl⟩
      have cW : ∀ W, Reads W 1 P np (xs.map .string) → Reads W 2 Q k (pairCells qs) → Calls Tryz.prog 142 #[.agg #[.string c, .slice P np cp, .slice Q k cq]] W (Ret W (.string s)) := fun W h1 h2 => hs ▸ write_any c P Q np cp k cq xs qs W h1 h2 HT.out
      have HW := Lib.hid cW
      rw [← hs] at hsz
      clear cW hlt
      by_cases hl : (W06 c xs qs).length ≤ 4096
      · rw [decide_eq_true hl, if_pos rfl, ← hs] at hv
        subst hv
        have hl' : s.size ≤ 4096 := by omega
        clear hl hsz hs HV
        go_wp2_with (go_at_call 142; refine (HW.out _ (HP.out.keep hbw) (HQ.out.keep hbw)).mono ?_; rintro e w3 ⟨rfl, hb3⟩)
        go_ret2
        exact ⟨rfl, belB⟩
      · rw [decide_eq_false hl] at hv
        simp only [Bool.false_eq_true, if_false] at hv
        subst hv
        have hl' : 4096 < s.size := by omega
        clear hl hsz hs HV
        go_wp2_with (go_at_call 142; refine (HW.out _ (HP.out.keep hbw) (HQ.out.keep hbw)).mono ?_; rintro e w3 ⟨rfl, hb3⟩)
        go_ret2
        exact ⟨rfl, belB⟩
end Go.Proofs.YtjhlpkhfdghngaaGreatDoor
namespace Go.Proofs.YtjhlpkhfdghngaaGreatDoor
open Go.RowKit Go.Sort
set_option linter.unusedVariables false
set_option linter.unusedSimpArgs false
theorem resB_words : ∀ (ps out r : List ByteArray), (∀ p ∈ out, isWordB p = true) → resB out ps = some r → ∀ p ∈ r, isWordB p = true
  | [], out, r, h, e => by simp [resB] at e; subst e; exact h
  | p :: ps, out, r, h, e => by
    rw [resB] at e
    cases hs : resStep out p with
    | none => rw [hs] at e; cases e
    | some o =>
      rw [hs, Option.bind_some] at e
      refine resB_words ps o r (fun q hq => ?_) e
      unfold resStep at hs
      split at hs
      · injection hs with hs; subst hs; exact h q hq
      · split at hs
        · injection hs with hs; subst hs; exact h q (List.dropLast_subset _ hq)
        · split at hs
          · injection hs with hs; subst hs
            rcases List.mem_append.1 hq with hq | hq
            · exact h q hq
            · rw [List.mem_singleton.1 hq]; assumption
          · cases hs
theorem qAcc_words : ∀ (ps : List ByteArray) (acc r : List (List UInt8 × List UInt8)), (∀ q ∈ acc, isNameB (toB q.1) = true ∧ isWordB (toB q.2) = true) → qAcc acc ps = some r → ∀ q ∈ r, isNameB (toB q.1) = true ∧ isWordB (toB q.2) = true
  | [], acc, r, h, e => by simp [qAcc] at e; subst e; exact h
  | p :: ps, acc, r, h, e => by
    rw [qAcc] at e
    cases hs : parsePair p with
    | none => rw [hs] at e; cases e
    | some x =>
      rw [hs] at e
      refine qAcc_words ps _ r (fun q hq => ?_) e
      rcases List.mem_append.1 hq with hq | hq
      · exact h q hq
      · rw [List.mem_singleton.1 hq]
        unfold parsePair at hs
        split at hs
        · rename_i hc
          simp only [Bool.and_eq_true] at hc
          injection hs with hs; subst hs
          exact ⟨hc.1.2, hc.2⟩
        · cases hs
def KeysUp (q : List (ByteArray × ByteArray)) : Prop := q.Pairwise fun a b => a.1.data.toList < b.1.data.toList
theorem pairsB_good (s : ByteArray) (r : List (ByteArray × ByteArray)) (h : pairsB s = some r) : (∀ q ∈ r, isNameB q.1 = true ∧ isWordB q.2 = true) ∧ KeysUp r := by
  unfold pairsB at h
  split at h
  · injection h with h; subst h; exact ⟨by simp, List.Pairwise.nil⟩
  · cases hq : qAcc [] (splitB 38 s) with
    | none => rw [hq] at h; cases h
    | some acc =>
      rw [hq, Option.map_some] at h
      injection h with h; subst h
      constructor
      · intro q hq'
        obtain ⟨x, hx, rfl⟩ := List.mem_map.1 hq'
        exact qAcc_words _ _ _ (by simp) hq x (mem_pairsL hx)
      · exact List.pairwise_map.2 ((good_pairs acc).2.2.1)
structure AdrGood (a : Adr) : Prop where
  name : isNameB a.cust = true
  words : ∀ p ∈ a.path, isWordB p = true
  parts : a.path.length ≤ 32
  pairs : a.query.length ≤ 16
  query : ∀ q ∈ a.query, isNameB q.1 = true ∧ isWordB q.2 = true
  up : KeysUp a.query
theorem parse_good (s : ByteArray) (h : (parseB s).2 = 0) : AdrGood (parseB s).1 := by
  unfold parseB at h ⊢
  split at h
  · cases h
  · rename_i hs
    rw [if_neg hs]
    generalize hrr : pathB (custL s) = rr at h ⊢
    generalize hqq : pairsB (toB (leftL s).2.1) = qq at h ⊢
    generalize hnm : isNameB (toB (custL s).1) = nm at h ⊢
    unfold adrOf at h ⊢
    split at h
    · split at h
      · rename_i hl
        simp only [hl, and_self, if_true]
        have hp := pairsB_good _ _ hqq
        refine ⟨hnm, ?_, hl.1, hl.2, hp.1, hp.2⟩
        unfold pathB at hrr
        split at hrr
        · exact resB_words _ _ _ (by simp) hrr
        · injection hrr with hrr; subst hrr; simp
      · cases h
    · cases h
theorem parse_err (s : ByteArray) (h : (parseB s).2 ≠ 0) : (parseB s).1 = noAdr := by
  unfold parseB at h ⊢
  split
  · rfl
  · rename_i hs
    rw [if_neg hs] at h
    generalize pathB (custL s) = rr at h ⊢
    generalize pairsB (toB (leftL s).2.1) = qq at h ⊢
    generalize isNameB (toB (custL s).1) = nm at h ⊢
    unfold adrOf at h ⊢
    split
    · split
      · rename_i hl; exact absurd (by simp [hl]) h
      · rfl
    · rfl
theorem parse_errno (s : ByteArray) : (parseB s).2 = 0 ∨ (parseB s).2 = 2 ∨ (parseB s).2 = 3 := by
  unfold parseB
  split
  · simp
  · unfold adrOf
    split
    · split <;> simp
    · simp
theorem pathL_bound : ∀ l : List (List UInt8), (∀ p ∈ l, p.length ≤ 64) → (pathL l).length ≤ l.length * 65
  | [], _ => by simp [pathL]
  | p :: l, h => by
    have h1 := h p (by simp)
    have h2 := pathL_bound l (fun q hq => h q (by simp [hq]))
    simp only [pathL, List.flatMap_cons, List.length_append, List.length_cons] at h2 ⊢
    omega
theorem queryL_bound : ∀ (sep : UInt8) (l : List (List UInt8 × List UInt8)), (∀ p ∈ l, p.1.length ≤ 64 ∧ p.2.length ≤ 64) → (queryL sep l).length ≤ l.length * 130
  | _, [], _ => by simp [queryL]
  | _, p :: l, h => by
    have h1 := h p (by simp)
    have h2 := queryL_bound 38 l (fun q hq => h q (by simp [hq]))
    simp only [queryL, List.length_append, List.length_cons] at h2 ⊢
    omega
theorem good_bound {a : Adr} (h : AdrGood a) : (W06 a.cust a.path a.query).length ≤ 10000 := by
  have h1 := pathL_bound (lists a.path) (by
    intro p hp
    obtain ⟨x, hx, rfl⟩ := List.mem_map.1 hp
    have := size_of_word (h.words x hx)
    rw [Lib.size_eq] at this; exact this)
  have h2 := queryL_bound 63 (lists2 a.query) (by
    intro p hp
    obtain ⟨x, hx, rfl⟩ := List.mem_map.1 hp
    have h3 := size_of_name (h.query x hx).1
    have h4 := size_of_word (h.query x hx).2
    rw [Lib.size_eq] at h3 h4; exact ⟨h3, h4⟩)
  have h3 := size_of_name h.name
  rw [Lib.size_eq] at h3
  have h4 := h.parts
  have h5 := h.pairs
  simp only [lists, lists2, List.length_map] at h1 h2
  simp only [W06, writeL, List.length_append, lists, lists2]
  omega
theorem parse_bound (s : ByteArray) : (W06 (parseB s).1.cust (parseB s).1.path (parseB s).1.query).length ≤ 10000 := by
  by_cases h : (parseB s).2 = 0
  · exact good_bound (parse_good s h)
  · rw [parse_err s h]
    simp [noAdr, W06, writeL, pathL, queryL, lists, lists2]
end Go.Proofs.YtjhlpkhfdghngaaGreatDoor
namespace Go.Proofs.YtjhlpkhfdghngaaGreatDoor
open Go.RowKit Go.Sort
set_option linter.unusedVariables false
set_option linter.unusedSimpArgs false
set_option maxRecDepth 100000
def canonV (s : ByteArray) : Value := if (parseB s).2 = 0 then textV (parseB s).1.cust (parseB s).1.path (parseB s).1.query else .tuple #[.string ⟨#[]⟩, .int .i64 (parseB s).2]
set_option maxHeartbeats 2000000 in
theorem canonical_any (s : ByteArray) (w : World) (hs : s.size ≤ 4294967281) (hE : Env w) : Calls Tryz.prog 24 #[.string s] w (Ret w (canonV s)) := by
  have cP := parse_any s w hs hE
  have he := parse_errno s
  have hbd := parse_bound s
  unfold canonV
  generalize parseB s = r at *
  obtain ⟨⟨c, ps, qs⟩, er⟩ := r
  dsimp only at he hbd ⊢
  have HP := Lib.hid cP
  have HB := Lib.hid hbd
  clear cP hbd
  rcases he with rfl | rfl | rfl
  · simp only [if_true]
    generalize hv : textV c ps qs = V
    have cT : ∀ A ca B cb W, Reads W 1 A ps.length (ps.map .string) → Reads W 2 B qs.length (pairCells qs) → Calls Tryz.prog 83 #[.agg #[.string c, .slice A ps.length ca, .slice B qs.length cb]] W (Ret W V) := fun A ca B cb W h1 h2 => by
      rw [← hv]
      exact text_any c A B ps.length ca qs.length cb ps qs W h1 h2 (by have := HB.out; omega)
    have HT := Lib.hid cT
    obtain ⟨x, y, hxy⟩ : ∃ x y, V = .tuple #[.string x, .int .i64 y] := by
      rw [← hv]; unfold textV; split <;> exact ⟨_, _, rfl⟩
    clear cT hv
    subst hxy
    go_enter Tryz.func24, Tryz.ntmps24
    go_wp2_with (first | (go_at_call 82; refine HP.out.mono ?_; rintro e w1 ⟨hb1, A, ca, B, cb, rfl, hA, hB, _, _⟩) | (go_at_call 83; refine (HT.out _ _ _ _ _ ?_ ?_).mono ?_; exact hA.keep belB; exact hB.keep belB; rintro e w2 ⟨rfl, hb2⟩))
    go_ret2
    exact ⟨rfl, belB⟩
  all_goals
    rw [if_neg (by decide)]
    go_enter Tryz.func24, Tryz.ntmps24
    go_wp2_with (go_at_call 82; refine HP.out.mono ?_; rintro e w1 ⟨hb1, A, ca, B, cb, rfl, hA, hB, _, _⟩)
    go_ret2
    exact ⟨rfl, belB⟩
def readB (s : ByteArray) : Bool := decide ((parseB s).2 = 0) && (ByteArray.toList ⟨(W06 (parseB s).1.cust (parseB s).1.path (parseB s).1.query).toArray⟩ == s.toList)
def ReadP (a : Adr) (ok : Bool) (w : World) (e : Ending) (w' : World) : Prop :=
  Below w.heap.size w w' ∧ ∃ A ca B cb, e = .returned (.tuple #[.agg #[.string a.cust, .slice A a.path.length ca, .slice B a.query.length cb], .bool ok]) ∧ Reads w' 1 A a.path.length (a.path.map .string) ∧ Reads w' 2 B a.query.length (pairCells a.query)
theorem ReadP.mk_ {c : ByteArray} {ps : List ByteArray} {qs : List (ByteArray × ByteArray)} {ok : Bool} {w w' : World} {A B : Option Addr} {ca cb : Nat} (hb : Below w.heap.size w w') (hA : Reads w' 1 A ps.length (ps.map .string)) (hB : Reads w' 2 B qs.length (pairCells qs)) :
    ReadP ⟨c, ps, qs⟩ ok w (.returned (.tuple #[.agg #[.string c, .slice A ps.length ca, .slice B qs.length cb], .bool ok])) w' := ⟨hb, A, ca, B, cb, rfl, hA, hB⟩
set_option maxHeartbeats 2000000 in
theorem read_any (s : ByteArray) (w : World) (hs : s.size ≤ 4294967281) (hE : Env w) : Calls Tryz.prog 73 #[.string s] w (ReadP (parseB s).1 (readB s) w) := by
  have cP := fun W h => parse_any s W hs h
  have he := parse_errno s
  have hbd := parse_bound s
  unfold readB
  generalize parseB s = r at *
  obtain ⟨⟨c, ps, qs⟩, er⟩ := r
  dsimp only at he hbd ⊢
  have HP := Lib.hid cP
  have HB := Lib.hid hbd
  clear cP hbd
  generalize hT : (ByteArray.mk (W06 c ps qs).toArray) = T
  have cW : ∀ A ca B cb W, Reads W 1 A ps.length (ps.map .string) → Reads W 2 B qs.length (pairCells qs) → Calls Tryz.prog 142 #[.agg #[.string c, .slice A ps.length ca, .slice B qs.length cb]] W (Ret W (.string T)) := fun A ca B cb W h1 h2 => by
    rw [← hT]
    exact write_any c A B ps.length ca qs.length cb ps qs W h1 h2 (by have := HB.out; omega)
  have HW := Lib.hid cW
  clear cW hT
  rcases he with rfl | he
  · simp only [decide_true, Bool.true_and]
    generalize hq : (T.toList == s.toList) = q
    have HQ := Lib.hid hq
    clear hq
    go_enter Tryz.func73, Tryz.ntmps73
    go_wp2_with (go_at_call 82; refine (HP.out _ (hE.keep (balloc (Below.refl _ _) _))).mono ?_; rintro e w1 ⟨hb1, A, ca, B, cb, rfl, hA, hB, hA1, hB1, _⟩; obtain ⟨hc1, hf1⟩ := bcell hb1; have hz1_0 : w.heap.size < w1.heap.size := (by have := hb1.size; (try simp at this); omega))
    have f1 : (w1.alloc (.cells #[.string c, .slice A ps.length ca, .slice B qs.length cb] 117)).cell? ⟨w1.heap.size, 0, none⟩ = some (.string c) := by simp [go_sem]
    have f2 : (w1.alloc (.cells #[.string c, .slice A ps.length ca, .slice B qs.length cb] 117)).cell? ⟨w1.heap.size, 1, none⟩ = some (.slice A ps.length ca) := by simp [go_sem]
    have f3 : (w1.alloc (.cells #[.string c, .slice A ps.length ca, .slice B qs.length cb] 117)).cell? ⟨w1.heap.size, 2, none⟩ = some (.slice B qs.length cb) := by simp [go_sem]
    have f4 : (w1.alloc (.cells #[.string c, .slice A ps.length ca, .slice B qs.length cb] 117)).cell? ⟨w.heap.size, 0, none⟩ = some (.string ⟨#[]⟩) := by simp [go_sem, *]
    have f5 : (w1.alloc (.cells #[.string c, .slice A ps.length ca, .slice B qs.length cb] 117)).cell? ⟨w.heap.size, 1, none⟩ = some (.slice none 0 0) := by simp [go_sem, *]
    have f6 : (w1.alloc (.cells #[.string c, .slice A ps.length ca, .slice B qs.length cb] 117)).cell? ⟨w.heap.size, 2, none⟩ = some (.slice none 0 0) := by simp [go_sem, *]
    have f7 : (w1.alloc (.cells #[.string c, .slice A ps.length ca, .slice B qs.length cb] 117)).frozen? ⟨w.heap.size, 0, none⟩ = false := by simp [go_sem, *]
    have f8 : (w1.alloc (.cells #[.string c, .slice A ps.length ca, .slice B qs.length cb] 117)).frozen? ⟨w.heap.size, 1, none⟩ = false := by simp [go_sem, *]
    have f9 : (w1.alloc (.cells #[.string c, .slice A ps.length ca, .slice B qs.length cb] 117)).frozen? ⟨w.heap.size, 2, none⟩ = false := by simp [go_sem, *]
    have hA2 : ∀ a, A = some a → a.block ≠ w.heap.size := fun a ha => by have := hA1 a ha; simp at this; omega
    have hB2 : ∀ a, B = some a → a.block ≠ w.heap.size := fun a ha => by have := hB1 a ha; simp at this; omega
    have hA3 := hA.keep (balloc (Below.refl _ w1) (.cells #[.string c, .slice A ps.length ca, .slice B qs.length cb] 117))
    have hB3 := hB.keep (balloc (Below.refl _ w1) (.cells #[.string c, .slice A ps.length ca, .slice B qs.length cb] 117))
    have hb3 := balloc (blater _ hb1) (.cells #[.string c, .slice A ps.length ca, .slice B qs.length cb] 117)
    have hne : w1.heap.size ≠ w.heap.size := by omega
    clear hc1 hf1 hA hB hA1 hB1
    generalize hW0 : w1.alloc (.cells #[.string c, .slice A ps.length ca, .slice B qs.length cb] 117) = W0 at *
    clear hW0
    go_region_held3 (fun w' => w'.cell? ⟨w1.heap.size, 0, none⟩ = some (.string c) ∧ w'.cell? ⟨w1.heap.size, 1, none⟩ = some (.slice A ps.length ca) ∧ w'.cell? ⟨w1.heap.size, 2, none⟩ = some (.slice B qs.length cb) ∧ w'.cell? ⟨w.heap.size, 0, none⟩ = some (rd w' ⟨w.heap.size, 0, none⟩) ∧ w'.cell? ⟨w.heap.size, 1, none⟩ = some (rd w' ⟨w.heap.size, 1, none⟩) ∧ w'.cell? ⟨w.heap.size, 2, none⟩ = some (rd w' ⟨w.heap.size, 2, none⟩) ∧ w'.frozen? ⟨w.heap.size, 0, none⟩ = false ∧ w'.frozen? ⟨w.heap.size, 1, none⟩ = false ∧ w'.frozen? ⟨w.heap.size, 2, none⟩ = false ∧ Reads w' 1 A ps.length (ps.map .string) ∧ Reads w' 2 B qs.length (pairCells qs) ∧ Below w.heap.size w w')
      (first | exact ⟨f1, f2, f3, rd_of f4, rd_of f5, rd_of f6, f7, f8, f9, hA3, hB3, Below.drew hb3⟩ | (go_split_ands; exact ⟨cell_keep hb2 ‹_›, cell_keep hb2 ‹_›, cell_keep hb2 ‹_›, rd_keep hb2 ‹_›, rd_keep hb2 ‹_›, rd_keep hb2 ‹_›, frozen_keep hb2 (cell_lt ‹_›) ‹_›, frozen_keep hb2 (cell_lt ‹_›) ‹_›, frozen_keep hb2 (cell_lt ‹_›) ‹_›, Reads.keep ‹_› hb2, Reads.keep ‹_› hb2, bstep ‹_› hb2⟩) | (go_split_ands; refine ⟨?_, ?_, ?_, rd_set (rd_set (rd_set ‹_›)), rd_set (rd_set (rd_set ‹_›)), rd_set (rd_set (rd_set ‹_›)), ?_, ?_, ?_, ((Reads.set_ ‹_› _ _ hA2).set_ _ _ hA2).set_ _ _ hA2, ((Reads.set_ ‹_› _ _ hB2).set_ _ _ hB2).set_ _ _ hB2, ?_⟩ <;> first | (simp [go_sem, *]; done) | (repeat (first | exact .refl _ _ | assumption | refine .drew ?_ | refine balloc ?_ _ | refine bdrewN ?_ _ | refine .setCell ?_ (by simp <;> omega) _ | refine bstep ?_ (by assumption)))))
      ((go_at_call 142; refine (HW.out _ _ _ _ _ (by go_split_ands; assumption) (by go_split_ands; assumption)).mono ?_; rintro e w2 ⟨rfl, hb2⟩))
    go_wp2
    exact bodyPost_ret (v := .tuple #[.agg #[.string c, .slice A ps.length ca, .slice B qs.length cb], .bool q]) (by have g4 := cell_keep (w := W0.drew) hb2 f4; have g5 := cell_keep (w := W0.drew) hb2 f5; have g6 := cell_keep (w := W0.drew) hb2 f6; simp [results, Tryz.results73, go_sem, g4, g5, g6, HQ.out]) rfl (ReadP.mk_ (by go_split_ands; assumption) (by go_split_ands; assumption) (by go_split_ands; assumption))
  rcases he with rfl | rfl
  all_goals
    rw [show (decide ((_ : Int) = 0)) = false from rfl, Bool.false_and]
    go_enter Tryz.func73, Tryz.ntmps73
    go_wp2_with (go_at_call 82; refine (HP.out _ (hE.keep (balloc (Below.refl _ _) _))).mono ?_; rintro e w1 ⟨hb1, A, ca, B, cb, rfl, hA, hB, hA1, hB1, _⟩; obtain ⟨hc1, hf1⟩ := bcell hb1; have hz1_0 : w.heap.size < w1.heap.size := (by have := hb1.size; (try simp at this); omega))
    have f1 : (w1.alloc (.cells #[.string c, .slice A ps.length ca, .slice B qs.length cb] 117)).cell? ⟨w1.heap.size, 0, none⟩ = some (.string c) := by simp [go_sem]
    have f2 : (w1.alloc (.cells #[.string c, .slice A ps.length ca, .slice B qs.length cb] 117)).cell? ⟨w1.heap.size, 1, none⟩ = some (.slice A ps.length ca) := by simp [go_sem]
    have f3 : (w1.alloc (.cells #[.string c, .slice A ps.length ca, .slice B qs.length cb] 117)).cell? ⟨w1.heap.size, 2, none⟩ = some (.slice B qs.length cb) := by simp [go_sem]
    have f4 : (w1.alloc (.cells #[.string c, .slice A ps.length ca, .slice B qs.length cb] 117)).cell? ⟨w.heap.size, 0, none⟩ = some (.string ⟨#[]⟩) := by simp [go_sem, *]
    have f5 : (w1.alloc (.cells #[.string c, .slice A ps.length ca, .slice B qs.length cb] 117)).cell? ⟨w.heap.size, 1, none⟩ = some (.slice none 0 0) := by simp [go_sem, *]
    have f6 : (w1.alloc (.cells #[.string c, .slice A ps.length ca, .slice B qs.length cb] 117)).cell? ⟨w.heap.size, 2, none⟩ = some (.slice none 0 0) := by simp [go_sem, *]
    have f7 : (w1.alloc (.cells #[.string c, .slice A ps.length ca, .slice B qs.length cb] 117)).frozen? ⟨w.heap.size, 0, none⟩ = false := by simp [go_sem, *]
    have f8 : (w1.alloc (.cells #[.string c, .slice A ps.length ca, .slice B qs.length cb] 117)).frozen? ⟨w.heap.size, 1, none⟩ = false := by simp [go_sem, *]
    have f9 : (w1.alloc (.cells #[.string c, .slice A ps.length ca, .slice B qs.length cb] 117)).frozen? ⟨w.heap.size, 2, none⟩ = false := by simp [go_sem, *]
    have hA2 : ∀ a, A = some a → a.block ≠ w.heap.size := fun a ha => by have := hA1 a ha; simp at this; omega
    have hB2 : ∀ a, B = some a → a.block ≠ w.heap.size := fun a ha => by have := hB1 a ha; simp at this; omega
    have hA3 := hA.keep (balloc (Below.refl _ w1) (.cells #[.string c, .slice A ps.length ca, .slice B qs.length cb] 117))
    have hB3 := hB.keep (balloc (Below.refl _ w1) (.cells #[.string c, .slice A ps.length ca, .slice B qs.length cb] 117))
    have hb3 := balloc (blater _ hb1) (.cells #[.string c, .slice A ps.length ca, .slice B qs.length cb] 117)
    have hne : w1.heap.size ≠ w.heap.size := by omega
    clear hc1 hf1 hA hB hA1 hB1
    generalize hW0 : w1.alloc (.cells #[.string c, .slice A ps.length ca, .slice B qs.length cb] 117) = W0 at *
    clear hW0
    go_big_region
    go_wp2
    exact bodyPost_ret (v := .tuple #[.agg #[.string c, .slice A ps.length ca, .slice B qs.length cb], .bool false]) (by simp [results, Tryz.results73, go_sem, f4, f5, f6]) rfl (ReadP.mk_ belB (((hA3.set_ _ _ hA2).set_ _ _ hA2).set_ _ _ hA2) (((hB3.set_ _ _ hB2).set_ _ _ hB2).set_ _ _ hB2))
end Go.Proofs.YtjhlpkhfdghngaaGreatDoor
