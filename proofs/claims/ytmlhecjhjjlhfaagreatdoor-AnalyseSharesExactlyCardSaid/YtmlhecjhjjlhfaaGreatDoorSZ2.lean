/- SHA-256 on lists of numbers, such that the kernel can reckon it; its pieces, as the loops want them. -/
import Derived.Carry
import Derived.OpenShut
import Derived.ChangeSame
import Derived.RowKit
import Derived.Below
import GoSem.PinnedTables
namespace Go.Proofs.YtmlhecjhjjlhfaaGreatDoor.Sha
set_option linter.unusedVariables false
set_option maxRecDepth 100000
def add32 (a b : Nat) : Nat := (a + b) % 4294967296
def rot (x n : Nat) : Nat := (x / 2 ^ n) ||| ((x * 2 ^ (32 - n)) % 4294967296)
def s0 (x : Nat) : Nat := (rot x 7 ^^^ rot x 18) ^^^ (x / 8)
def s1 (x : Nat) : Nat := (rot x 17 ^^^ rot x 19) ^^^ (x / 1024)
def mix (x i j k : Nat) : Nat := (rot x i ^^^ rot x j) ^^^ rot x k
def word (b : List Nat) : Nat := ((b.getD 0 0 * 256 + b.getD 1 0) * 256 + b.getD 2 0) * 256 + b.getD 3 0
def words : Nat → List Nat → List Nat
  | 0, _ => []
  | n + 1, b => word b :: words n (b.drop 4)
def nextW (l : List Nat) : Nat := add32 (add32 (add32 (l.getD (l.length - 16) 0) (s0 (l.getD (l.length - 15) 0))) (l.getD (l.length - 7) 0)) (s1 (l.getD (l.length - 2) 0))
def grow : Nat → List Nat → List Nat
  | 0, l => l
  | n + 1, l => grow n (l ++ [nextW l])
structure St where
  (a b c d e f g h : Nat)
def round (v : St) (k w : Nat) : St :=
  let x := add32 (add32 (add32 (add32 v.h (mix v.e 6 11 25)) ((v.e &&& v.f) ^^^ ((4294967295 - v.e) &&& v.g))) k) w
  let y := add32 (mix v.a 2 13 22) (((v.a &&& v.b) ^^^ (v.a &&& v.c)) ^^^ (v.b &&& v.c))
  ⟨add32 x y, v.a, v.b, v.c, add32 v.d x, v.e, v.f, v.g⟩
def rounds : List Nat → List Nat → St → St
  | k :: ks, w :: ws, v => rounds ks ws (round v k w)
  | _, _, v => v
def ks : List Nat := [
  0x428a2f98, 0x71374491, 0xb5c0fbcf, 0xe9b5dba5, 0x3956c25b, 0x59f111f1, 0x923f82a4, 0xab1c5ed5,
  0xd807aa98, 0x12835b01, 0x243185be, 0x550c7dc3, 0x72be5d74, 0x80deb1fe, 0x9bdc06a7, 0xc19bf174,
  0xe49b69c1, 0xefbe4786, 0x0fc19dc6, 0x240ca1cc, 0x2de92c6f, 0x4a7484aa, 0x5cb0a9dc, 0x76f988da,
  0x983e5152, 0xa831c66d, 0xb00327c8, 0xbf597fc7, 0xc6e00bf3, 0xd5a79147, 0x06ca6351, 0x14292967,
  0x27b70a85, 0x2e1b2138, 0x4d2c6dfc, 0x53380d13, 0x650a7354, 0x766a0abb, 0x81c2c92e, 0x92722c85,
  0xa2bfe8a1, 0xa81a664b, 0xc24b8b70, 0xc76c51a3, 0xd192e819, 0xd6990624, 0xf40e3585, 0x106aa070,
  0x19a4c116, 0x1e376c08, 0x2748774c, 0x34b0bcb5, 0x391c0cb3, 0x4ed8aa4a, 0x5b9cca4f, 0x682e6ff3,
  0x748f82ee, 0x78a5636f, 0x84c87814, 0x8cc70208, 0x90befffa, 0xa4506ceb, 0xbef9a3f7, 0xc67178f2]
def st0 : St := ⟨0x6a09e667, 0xbb67ae85, 0x3c6ef372, 0xa54ff53a, 0x510e527f, 0x9b05688c, 0x1f83d9ab, 0x5be0cd19⟩
def comp (s : St) (b : List Nat) : St :=
  let v := rounds ks (grow 48 (words 16 b)) s
  ⟨add32 s.a v.a, add32 s.b v.b, add32 s.c v.c, add32 s.d v.d, add32 s.e v.e, add32 s.f v.f, add32 s.g v.g, add32 s.h v.h⟩
def blocks : Nat → St → List Nat → St
  | 0, s, _ => s
  | n + 1, s, m => blocks n (comp s m) (m.drop 64)
def bytes4 (x : Nat) : List Nat := [x / 16777216, x / 65536 % 256, x / 256 % 256, x % 256]
def out (s : St) : List Nat := bytes4 s.a ++ bytes4 s.b ++ bytes4 s.c ++ bytes4 s.d ++ bytes4 s.e ++ bytes4 s.f ++ bytes4 s.g ++ bytes4 s.h
theorem add32_lt (a b : Nat) : add32 a b < 4294967296 := Nat.mod_lt _ (by decide)
theorem words_len : ∀ (n : Nat) (b : List Nat), (words n b).length = n
  | 0, _ => rfl
  | n + 1, b => by rw [words, List.length_cons, words_len n]
structure Ok (v : St) : Prop where
  a : v.a < 4294967296
  b : v.b < 4294967296
  c : v.c < 4294967296
  d : v.d < 4294967296
  e : v.e < 4294967296
  f : v.f < 4294967296
  g : v.g < 4294967296
  h : v.h < 4294967296
theorem comp_ok (s : St) (b : List Nat) : Ok (comp s b) := ⟨add32_lt _ _, add32_lt _ _, add32_lt _ _, add32_lt _ _, add32_lt _ _, add32_lt _ _, add32_lt _ _, add32_lt _ _⟩
theorem st0_ok : Ok st0 := ⟨by decide, by decide, by decide, by decide, by decide, by decide, by decide, by decide⟩
theorem blocks_ok : ∀ (n : Nat) (s : St) (m : List Nat), Ok s → Ok (blocks n s m)
  | 0, _, _, h => h
  | n + 1, s, m, _ => blocks_ok n _ _ (comp_ok s m)
theorem words_take : ∀ (n k : Nat) (b : List Nat), 4 * n ≤ k → words n (b.take k) = words n b
  | 0, _, _, _ => rfl
  | n + 1, k, b, h => by
    rw [words, words, List.drop_take, words_take n (k - 4) _ (by omega)]
    congr 1
    unfold word
    have e : ∀ j, j < 4 → (b.take k).getD j 0 = b.getD j 0 := fun j hj => by
      rw [List.getD_eq_getElem?_getD, List.getD_eq_getElem?_getD, List.getElem?_take_of_lt (by omega)]
    rw [e 0 (by omega), e 1 (by omega), e 2 (by omega), e 3 (by omega)]
theorem comp_take (s : St) (b : List Nat) : comp s (b.take 64) = comp s b := by
  unfold comp
  rw [words_take 16 64 b (by omega)]
theorem blocks_app : ∀ (n : Nat) (s : St) (m r : List Nat), 64 * n ≤ m.length → blocks n s (m ++ r) = blocks n s m
  | 0, _, _, _, _ => rfl
  | n + 1, s, m, r, h => by
    rw [blocks, blocks, List.drop_append_of_le_length (by omega), blocks_app n _ _ r (by simp; omega), ← comp_take s (m ++ r), ← comp_take s m, List.take_append_of_le_length (by omega)]
end Go.Proofs.YtmlhecjhjjlhfaaGreatDoor.Sha
namespace Go.Proofs.YtmlhecjhjjlhfaaGreatDoor.Sha
set_option linter.unusedVariables false
set_option maxRecDepth 100000
structure Str (m : List Nat) (s : St) (blk : List Nat) : Prop where
  st : s = blocks (m.length / 64) st0 m
  len : blk.length = 64
  tail : blk.take (m.length % 64) = m.drop (64 * (m.length / 64))
theorem Str.ok {m : List Nat} {s : St} {blk : List Nat} (h : Str m s blk) : Ok s := by rw [h.st]; exact blocks_ok _ _ _ st0_ok
def put (blk : List Nat) (at_ : Nat) (x : List Nat) : List Nat := blk.take at_ ++ (x ++ blk.drop (at_ + x.length))
theorem put_len {blk x : List Nat} {a : Nat} (h : a + x.length ≤ blk.length) : (put blk a x).length = blk.length := by
  unfold put; simp; omega
theorem Str.step {m : List Nat} {s : St} {blk : List Nat} (h : Str m s blk) (x : List Nat) (hx : m.length % 64 + x.length < 64) : Str (m ++ x) s (put blk (m.length % 64) x) := by
  have hl := h.len
  have hq : (m ++ x).length / 64 = m.length / 64 := by rw [List.length_append]; omega
  have hr : (m ++ x).length % 64 = m.length % 64 + x.length := by rw [List.length_append]; omega
  refine ⟨?_, by rw [put_len (by omega)]; exact hl, ?_⟩
  · rw [hq, blocks_app _ _ _ _ (by omega)]; exact h.st
  · rw [hq, hr]
    unfold put
    rw [← List.append_assoc, List.take_append_of_le_length (by simp; omega), List.take_of_length_le (by simp; omega), h.tail, List.drop_append_of_le_length (by omega)]
def vintF : Nat → Nat → List Nat
  | 0, z => [z]
  | f + 1, z => if z < 128 then [z] else (z % 128 + 128) :: vintF f (z / 128)
def vint (z : Nat) : List Nat := vintF 10 z
def wireB (s : List Nat) : List Nat := vint (2 * s.length) ++ s
end Go.Proofs.YtmlhecjhjjlhfaaGreatDoor.Sha
namespace Go.Proofs.YtmlhecjhjjlhfaaGreatDoor.Sha
set_option linter.unusedVariables false
set_option maxRecDepth 100000
def part (d : List Nat) : Nat → Nat
  | 0 => 0
  | j + 1 => part d j * 256 + d.getD j 0
end Go.Proofs.YtmlhecjhjjlhfaaGreatDoor.Sha
namespace Go.Proofs.YtmlhecjhjjlhfaaGreatDoor
open Go.RowKit Go.ChangeShapes Go.WideShapes
section
variable {H : Type} {enc : TypeId × Value → H} {P : Program}
def rowed (P : Program) (ts : List TypeId) : Bool := ts.all fun t => P.readableRec t && decide (t < P.types.size)
theorem args_stay (hl : laidOutB P = true) {W W' : World} (hb : Below W.heap.size W W') (sp : Nat → Bool) :
    ∀ {ts : List TypeId} {vs : List Value} {ds : List (DataW H)} {ps : List MemPlace}, rowed P ts = true → DataW.TrodAll enc P W 0 (fun _ => true) true ts vs ds ps → (∀ x ∈ ps, x.block < W.heap.size) → (∀ x ∈ ps, sp x.block = true) → DataW.TrodAll enc P W' 0 sp true ts vs ds ps
  | [], vs, ds, ps, _, h, _, _ => by
    obtain ⟨rfl, rfl, rfl⟩ := trodAll_nil h
    exact trodAll_mk0
  | t :: ts, vs, ds, ps, hr, h, h1, h2 => by
    obtain ⟨v, vs', d, ds', p, q, rfl, rfl, rfl, hv, hs⟩ := trodAll_cons h
    simp only [rowed, List.all_cons, Bool.and_eq_true, decide_eq_true_eq] at hr
    exact trodAll_cons_mk (WideElems.Trod_stays hl hr.1.1 hr.1.2 hv (fun x hx => hb.same (h1 x (by simp [hx]))) (fun x hx => h2 x (by simp [hx])))
      (args_stay hl hb sp (by simpa [rowed] using hr.2) hs (fun x hx => h1 x (by simp [hx])) (fun x hx => h2 x (by simp [hx])))
theorem bool_reads {t : TypeId} {W : World} {b : Nat} {sp : Nat → Bool} {hd : Bool} (ht : P.underlying t = some .bool) (x : Bool) : DataW.TrodAll enc P W b sp hd [t] [.bool x] [.lit (.bool x)] [] := trodAll_mk1 (shut_bool ht x)
theorem law_post {f : Func} {s : ChangeSpec} {apart fresh handsOn again : Bool} {W W' : World} {args : Array Value} {ds gs : List (DataW H)} {before : List MemPlace} {t : TypeId}
    (hW : DataW.Whole enc P f.params.toList s.vars apart W args.toList ds gs before) (hvars : s.vars = []) (hl : laidOutB P = true) (hrow : rowed P f.params.toList = true) (hres : f.resultTypes = #[t]) (ht : P.underlying t = some .bool)
    (hfn : s.fn H (ds ++ gs) = { results := [.lit (.bool true)], args := ds }) (hb : Below W.heap.size W W') : s.post enc P f apart fresh handsOn again W args (.bool true) W' := by
  have hlt : ∀ x ∈ before, x.block < W.heap.size := fun x hx => hW.lt x hx
  have hW0 := hW
  obtain ⟨p, q, hA, hV, hp, hfz, hnd⟩ := hW
  rw [hvars] at hV
  obtain ⟨rfl, rfl⟩ := trodVars_none hV
  rw [List.append_nil] at hp
  subst hp
  have hr1 : (Value.bool true).resultList f.resultTypes.size = [.bool true] := by rw [hres]; rfl
  have hr2 : f.resultTypes.toList = [t] := by rw [hres]
  have hvs : ∀ sp, DataW.TrodVars enc P W' sp s.vars [] [] := fun sp => by rw [hvars]; rfl
  refine ⟨ds, [], before, [], before, [], hW0, ?_, ?_, ?_, ?_, fun _ => ⟨?_, .lit (.bool true) :: ds, [], before, ?_, fun x hx _ => hx⟩⟩
  · rw [hfn, hr1, hr2]; exact bool_reads ht true
  · rw [hfn]; exact args_stay hl hb _ hrow hA hlt (fun x hx => by simpa using hlt x hx)
  · rw [hfn]; exact hvs _
  · exact World.keptBut_mono (fun x hx => ⟨hx, .inr (.inl hx)⟩) (hb.frame (· ∈ before))
  · exact ok_one hres rfl (okWide_bool_mk ht true)
  · refine ⟨before, [], ?_, hvs _, by simp, ?_, hnd⟩
    · rw [hr1, hr2]
      have := trodAll_append (args_stay hl hb (fun _ => true) hrow hA hlt (fun _ _ => rfl)) (bool_reads (enc := enc) (P := P) (W := W') (b := 0) (sp := fun _ => true) (hd := true) ht true)
      simpa using this
    · intro b off hx
      rw [hb.frozen (hlt _ hx)]
      exact hfz b off hx
end
end Go.Proofs.YtmlhecjhjjlhfaaGreatDoor
