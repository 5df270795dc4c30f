/- The iterators over maps, and the sort of what they yield, at this translation: written by the kit's own tools (lay-iter, lay-plain). -/
import Derived.Shelf.SlGeneric
import Derived.Shelf.SlIter.Nil
import Derived.Shelf.SortM.Plain
import Derived.Shelf.SortM.SortNone
import Derived.Ground.GgzProg
import Derived.Ground.SlgmProg
import Derived.Test.YtocgkpdolgnbgaaGreatDoorProg
namespace Go.Proofs
open Go.Shelf
def Tryz.keys195_ren : Go.Shelf.Ren := ⟨fun | 7 => 195 | 10 => 216 | n => n, fun | 23 => 213 | 26 => 9 | 3 => 9 | 28 => 98 | 0 => 0 | 27 => 77 | 33 => 87 | 4 => 4 | n => n, fun | n => n⟩
theorem Tryz.keys195 : Go.Proofs.SlLaysZ.n7 Tryz.prog Tryz.keys195_ren := {
  mixed := by kernel_rfl
  f7 := ⟨Tryz.f195.name, by decide, Tryz.func195.trans (congrArg some (by kernel_rfl))⟩
  f10 := ⟨Tryz.f216.name, by decide, Tryz.func216.trans (congrArg some (by kernel_rfl))⟩
  t0 := Tryz.underlying0
  a0 := Tryz.isAgg0
  z0 := Tryz.sizeOf0
  v0 := Tryz.zeroValue0
  t4 := Tryz.underlying4
  a4 := Tryz.isAgg4
  z4 := Tryz.sizeOf4
  v4 := Tryz.zeroValue4
  t23 := Tryz.underlying213
  a23 := Tryz.isAgg213
  z23 := Tryz.sizeOf213
  v23 := Tryz.zeroValue213
  t26 := Tryz.underlying9
  a26 := Tryz.isAgg9
  z26 := Tryz.sizeOf9
  v26 := Tryz.zeroValue9
  t27 := Tryz.underlying77
  a27 := Tryz.isAgg77
  z27 := Tryz.sizeOf77
  v27 := Tryz.zeroValue77
  t28 := Tryz.underlying98
  a28 := Tryz.isAgg98
  z28 := Tryz.sizeOf98
  v28 := Tryz.zeroValue98
  t33 := Tryz.underlying87
  a33 := Tryz.isAgg87
  z33 := Tryz.sizeOf87
  v33 := Tryz.zeroValue87 }
def Tryz.sorted194_ren : Go.Shelf.Ren := ⟨fun | 6 => 194 | 8 => 214 | 9 => 215 | 11 => 224 | 13 => 226 | 12 => 225 | 23 => 236 | 24 => 209 | 14 => 227 | 15 => 228 | 16 => 229 | 17 => 230 | 18 => 231 | 19 => 232 | 20 => 233 | 21 => 234 | 22 => 235 | 25 => 237 | 26 => 238 | 27 => 239 | 28 => 240 | 29 => 241 | 30 => 242 | 31 => 243 | n => n, fun | 26 => 9 | 28 => 98 | 24 => 22 | 0 => 0 | 3 => 3 | 37 => 220 | 48 => 228 | 50 => 207 | 4 => 4 | 40 => 250 | 39 => 249 | 45 => 78 | 5 => 5 | 9 => 9 | 51 => 255 | 55 => 259 | 57 => 261 | 58 => 262 | 33 => 87 | n => n, fun | n => n⟩
theorem Tryz.sorted194 : Go.Proofs.SlLaysZ.n6 Tryz.prog Tryz.sorted194_ren := {
  mixed := by kernel_rfl
  f6 := ⟨Tryz.f194.name, by decide, Tryz.func194.trans (congrArg some (by kernel_rfl))⟩
  f8 := ⟨Tryz.f214.name, by decide, Tryz.func214.trans (congrArg some (by kernel_rfl))⟩
  f11 := ⟨Tryz.f224.name, by decide, Tryz.func224.trans (congrArg some (by kernel_rfl))⟩
  t0 := Tryz.underlying0
  a0 := Tryz.isAgg0
  z0 := Tryz.sizeOf0
  v0 := Tryz.zeroValue0
  t24 := Tryz.underlying22
  a24 := Tryz.isAgg22
  z24 := Tryz.sizeOf22
  v24 := Tryz.zeroValue22
  t26 := Tryz.underlying9
  a26 := Tryz.isAgg9
  z26 := Tryz.sizeOf9
  v26 := Tryz.zeroValue9
  t28 := Tryz.underlying98
  a28 := Tryz.isAgg98
  z28 := Tryz.sizeOf98
  v28 := Tryz.zeroValue98
  i26 := by kernel_rfl }
def Tryz.sort215_ren : Go.Shelf.Ren := ⟨fun | 6 => 215 | 8 => 226 | 9 => 225 | 19 => 236 | 20 => 209 | 21 => 227 | 22 => 228 | 23 => 229 | 24 => 230 | 25 => 231 | 26 => 232 | 27 => 233 | 28 => 234 | 29 => 235 | 36 => 237 | 31 => 238 | 32 => 239 | 37 => 240 | 38 => 241 | 39 => 242 | 41 => 243 | n => n, fun | 27 => 22 | 29 => 9 | 3 => 3 | 32 => 220 | 26 => 22 | 0 => 0 | 44 => 228 | 46 => 207 | 4 => 4 | 36 => 250 | 35 => 249 | 41 => 78 | 5 => 5 | 9 => 9 | 53 => 255 | 57 => 259 | 63 => 261 | 64 => 262 | n => n, fun | n => n⟩
theorem Tryz.sort215 : Go.Proofs.SlLaysM.n6 Tryz.prog Tryz.sort215_ren := {
  mixed := by kernel_rfl
  f6 := ⟨Tryz.f215.name, by decide, Tryz.func215.trans (congrArg some (by kernel_rfl))⟩
  f8 := Tryz.func226.trans (congrArg some (by kernel_rfl))
  f9 := ⟨Tryz.f225.name, by decide, Tryz.func225.trans (congrArg some (by kernel_rfl))⟩
  f19 := Tryz.func236.trans (congrArg some (by kernel_rfl))
  f20 := Tryz.func209.trans (congrArg some (by kernel_rfl))
  f21 := ⟨Tryz.f227.name, by decide, Tryz.func227.trans (congrArg some (by kernel_rfl))⟩
  f22 := ⟨Tryz.f228.name, by decide, Tryz.func228.trans (congrArg some (by kernel_rfl))⟩
  f23 := ⟨Tryz.f229.name, by decide, Tryz.func229.trans (congrArg some (by kernel_rfl))⟩
  f24 := ⟨Tryz.f230.name, by decide, Tryz.func230.trans (congrArg some (by kernel_rfl))⟩
  f25 := ⟨Tryz.f231.name, by decide, Tryz.func231.trans (congrArg some (by kernel_rfl))⟩
  f26 := ⟨Tryz.f232.name, by decide, Tryz.func232.trans (congrArg some (by kernel_rfl))⟩
  f27 := ⟨Tryz.f233.name, by decide, Tryz.func233.trans (congrArg some (by kernel_rfl))⟩
  f28 := ⟨Tryz.f234.name, by decide, Tryz.func234.trans (congrArg some (by kernel_rfl))⟩
  f29 := ⟨Tryz.f235.name, by decide, Tryz.func235.trans (congrArg some (by kernel_rfl))⟩
  f31 := Tryz.func238.trans (congrArg some (by kernel_rfl))
  f32 := Tryz.func239.trans (congrArg some (by kernel_rfl))
  f36 := ⟨Tryz.f237.name, by decide, Tryz.func237.trans (congrArg some (by kernel_rfl))⟩
  f37 := ⟨Tryz.f240.name, by decide, Tryz.func240.trans (congrArg some (by kernel_rfl))⟩
  f38 := ⟨Tryz.f241.name, by decide, Tryz.func241.trans (congrArg some (by kernel_rfl))⟩
  f39 := ⟨Tryz.f242.name, by decide, Tryz.func242.trans (congrArg some (by kernel_rfl))⟩
  f41 := ⟨Tryz.f243.name, by decide, Tryz.func243.trans (congrArg some (by kernel_rfl))⟩
  t0 := Tryz.underlying0
  a0 := Tryz.isAgg0
  z0 := Tryz.sizeOf0
  v0 := Tryz.zeroValue0
  t3 := Tryz.underlying3
  a3 := Tryz.isAgg3
  z3 := Tryz.sizeOf3
  v3 := Tryz.zeroValue3
  t4 := Tryz.underlying4
  a4 := Tryz.isAgg4
  z4 := Tryz.sizeOf4
  v4 := Tryz.zeroValue4
  t5 := Tryz.underlying5
  a5 := Tryz.isAgg5
  z5 := Tryz.sizeOf5
  v5 := Tryz.zeroValue5
  t9 := Tryz.underlying9
  a9 := Tryz.isAgg9
  z9 := Tryz.sizeOf9
  v9 := Tryz.zeroValue9
  t26 := Tryz.underlying22
  a26 := Tryz.isAgg22
  z26 := Tryz.sizeOf22
  v26 := Tryz.zeroValue22
  t27 := Tryz.underlying22
  a27 := Tryz.isAgg22
  z27 := Tryz.sizeOf22
  v27 := Tryz.zeroValue22
  t29 := Tryz.underlying9
  a29 := Tryz.isAgg9
  z29 := Tryz.sizeOf9
  v29 := Tryz.zeroValue9
  t32 := Tryz.underlying220
  a32 := Tryz.isAgg220
  z32 := Tryz.sizeOf220
  v32 := Tryz.zeroValue220
  t35 := Tryz.underlying249
  a35 := Tryz.isAgg249
  z35 := Tryz.sizeOf249
  v35 := Tryz.zeroValue249
  t36 := Tryz.underlying250
  a36 := Tryz.isAgg250
  z36 := Tryz.sizeOf250
  v36 := Tryz.zeroValue250
  t41 := Tryz.underlying78
  a41 := Tryz.isAgg78
  z41 := Tryz.sizeOf78
  v41 := Tryz.zeroValue78
  t44 := Tryz.underlying228
  a44 := Tryz.isAgg228
  z44 := Tryz.sizeOf228
  v44 := Tryz.zeroValue228
  t46 := Tryz.underlying207
  a46 := Tryz.isAgg207
  z46 := Tryz.sizeOf207
  v46 := Tryz.zeroValue207
  t53 := Tryz.underlying255
  a53 := Tryz.isAgg255
  z53 := Tryz.sizeOf255
  v53 := Tryz.zeroValue255
  t57 := Tryz.underlying259
  a57 := Tryz.isAgg259
  z57 := Tryz.sizeOf259
  v57 := Tryz.zeroValue259
  t63 := Tryz.underlying261
  a63 := Tryz.isAgg261
  z63 := Tryz.sizeOf261
  v63 := Tryz.zeroValue261
  t64 := Tryz.underlying262
  a64 := Tryz.isAgg262
  z64 := Tryz.sizeOf262
  v64 := Tryz.zeroValue262 }
open Go.RowKit Go.Maps Go.Sort Go.Shelf
theorem Tryz.sorts194 (m : Nat) : AnyZ.SortsIn Tryz.prog Tryz.sorted194_ren Fence.wide m :=
  ⟨fun blk off cap ss W hH hblk hsz => callsIn_wide.2 (AnyM.slices_Sort_string Tryz.sort215 blk off cap ss W hH hblk hsz),
   fun p cap W => callsIn_wide.2 (AnyM.slices_Sort_string_none Tryz.sort215 p cap W)⟩
theorem Tryz.maps_Keys_195 (mb : Option Nat) (W : World) : CallsIn Fence.wide 5 Tryz.prog 195 #[.map mb] W fun e w' => e = .returned (.func (.func 216) #[] #[.pointer (some ⟨W.heap.size, 0, none⟩)]) ∧ w' = W.alloc (.cells #[.map mb] 213) :=
  AnyZ.keys_in Tryz.keys195 Fence.wide 5 trivial rfl mb W
set_option maxHeartbeats 1000000 in
theorem Tryz.slices_Sorted_keys_194_195 {H : Type} (b nn : Nat) (D0 : DataW H) (R : Value → Option (DataW H × List MemPlace)) (w : World) (hown : w.ownsMap Tryz.prog 9 R b nn D0) (hmax : Maps.size D0 ≤ maxLen) (hbytes : Maps.size D0 * 16 ≤ 140737488355328) :
    CallsIn Fence.wide 5 Tryz.prog 194 #[.func (.func 216) #[] #[.pointer (some ⟨w.heap.size, 0, none⟩)]] (w.alloc (.cells #[.map (some b)] 213)) fun e w' => ∃ (v : Value) (ss : List (List UInt8)), e = .returned v ∧ ss.Perm (strKeys D0) ∧
      w'.ownsRow (w.alloc (.cells #[.map (some b)] 213)).heap.size 9 1 v ss.length ((ss.mergeSort (fun x y => decide (x ≤ y))).map encStr) ∧ (v = .slice none 0 0 ↔ ss = []) ∧ Below (w.alloc (.cells #[.map (some b)] 213)).heap.size (w.alloc (.cells #[.map (some b)] 213)) w' := by
  have hbl := hown.lt
  have hseq : SeqGives Fence.wide 2 Tryz.prog 216 #[.pointer (some ⟨w.heap.size, 0, none⟩)] encStr (fun ss => ss.Perm (strKeys D0)) (Maps.size D0) (w.alloc (.cells #[.map (some b)] 213)) :=
    AnyZ.keys_gives (ρ := Tryz.keys195_ren) { Tryz.keys195 with } Fence.wide _ trivial rfl (by omega) w.heap.size b nn D0 _ (by simp) (by simp) (by
      obtain ⟨es, clock, hb, Ft, hs, hD⟩ := hown
      exact ⟨es, clock, (Below.heap_alloc _ _ b hbl).trans hb, Ft, hs, hD⟩)
  exact AnyZ.sorted_in Tryz.sorted194 Fence.wide 5 trivial trivial trivial trivial rfl (by omega) (Tryz.sorts194 _) (enters_of Tryz.func215 (by kernel_rfl) rfl) 216 #[.pointer (some ⟨w.heap.size, 0, none⟩)] trivial (enters_of Tryz.func216 (by kernel_rfl) rfl) _ _ hmax hbytes _ hseq
end Go.Proofs
