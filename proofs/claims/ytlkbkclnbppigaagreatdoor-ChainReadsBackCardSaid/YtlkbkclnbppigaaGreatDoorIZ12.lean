/- One block, compressed. -/
import Derived.Test.YtlkbkclnbppigaaGreatDoorIZ9
import Derived.Deep.DeepCutAuto
set_option maxHeartbeats 4000000
namespace Go.Proofs.YtlkbkclnbppigaaGreatDoor
open Go.RowKit Go.Sort
set_option linter.unusedVariables false
set_option linter.unusedSimpArgs false
set_option maxRecDepth 100000
def Ks (w:World):Prop:=∃ t fr,w.heap[0]? = some (.cells (w32 Sha.ks).toArray t fr)
theorem Ks.keep {w w':World} (h:Ks w) (hb:Below w.heap.size w w'):Ks w':=by
 obtain⟨t,fr,h⟩:=h
 refine⟨t,fr,(hb.block _ ?_).trans h⟩
 rcases Nat.lt_or_ge 0 w.heap.size with hlt | hge
 ·exact hlt
 ·rw[Array.getElem?_eq_none hge]at h;cases h
theorem inf32:(Tryz.prog.info? 147).map (·.size)=some 1:=by kernel_rfl
theorem run_index_w32 (w:World) (L:List Nat) (hL:L.length=64) (t:Nat) (ht:t<64):(Instr.index 265 (.agg (w32 L).toArray) (.int .i64 t)).run Tryz.prog w=.ok (.int .u32 (L.getD t 0:Nat)) w:=by
 have h1:=run_underlying Tryz.underlying265 w
 have h2:=run_underlying Tryz.underlying147 w
 have h3:(w32 L)[t]? = some (.int .u32 (L.getD t 0:Nat)):=w32_at L (by omega)
 have h4:(w32 L).toArray[t]? = some (.int .u32 (L.getD t 0:Nat)):=by rw[List.getElem?_toArray];exact h3
 have hi:=inf32
 cases hq:Tryz.prog.info? 147 with
 | none=>rw[hq]at hi;cases hi
 | some i =>
  have hs:i.size=1:=by rw[hq]at hi;simpa using hi
  have h5:(t:Int)<64:=by omega
  have h6:(0:Int)≤t:=by omega
  generalize (w32 L).toArray=cs at *
  simp[Instr.index,asIntOf,part,isAgg,sizeOf,typeInfo,h1,h2,hq,hs,h5,h6,h4]
  intro h7;omega
theorem run_arrayAt4 (w:World) (a:Addr) (n c:Nat) (hn:4≤n):(Instr.arrayAt 267 (.slice (some a) n c)).run Tryz.prog w=.ok (.pointer (some a)) w:=by
 have h1:=run_underlying Tryz.underlying267 w
 have h2:¬ n<4:=by omega
 simp[Instr.arrayAt,h1,h2]
theorem W4_put {w:World} {g a b c d:Nat} (h:Row32 w g 267 [a,b,c,d]) (x y z u:Nat):Row32 ((((w.setCell ⟨g,0,none⟩ (.int .u32 (x:Int))).setCell ⟨g,1,none⟩ (.int .u32 (y:Int))).setCell ⟨g,2,none⟩ (.int .u32 (z:Int))).setCell ⟨g,3,none⟩ (.int .u32 (u:Int))) g 267 [x,y,z,u] :=
 (((h.set_ 0 x).set_ 1 y).set_ 2 z).set_ 3 u
theorem far4 {w:World} {k g:Nat} {t:TypeId} {cs:List Value} (h:RowV w k t cs) (hk:k≠g) (x y z u:Value):RowV ((((w.setCell ⟨g,0,none⟩ x).setCell ⟨g,1,none⟩ y).setCell ⟨g,2,none⟩ z).setCell ⟨g,3,none⟩ u) k t cs :=
 (((h.far ⟨g,0,none⟩ x hk).far ⟨g,1,none⟩ y hk).far ⟨g,2,none⟩ z hk).far ⟨g,3,none⟩ u hk
theorem below4 {B g:Nat} {w0 w:World} (h:Below B w0 w) (hg:B≤g) (x y z u:Value):Below B w0 ((((w.setCell ⟨g,0,none⟩ x).setCell ⟨g,1,none⟩ y).setCell ⟨g,2,none⟩ z).setCell ⟨g,3,none⟩ u) :=
 (((h.setCell (p:=⟨g,0,none⟩) hg x).setCell (p:=⟨g,1,none⟩) hg y).setCell (p:=⟨g,2,none⟩) hg z).setCell (p:=⟨g,3,none⟩) hg u
theorem xor_all (x:Nat) (hx:x<4294967296):4294967295 ^^^ x=4294967295-x:=by
 apply Nat.eq_of_testBit_eq
 intro i
 have h1:=Nat.testBit_two_pow_sub_succ (n:=32) (x:=x) (by simpa using hx) i
 rw[show 2 ^ 32-(x+1)=4294967295-x by omega]at h1
 rw[h1,Nat.testBit_xor,show 4294967295=2 ^ 32-1 from rfl,Nat.testBit_two_pow_sub_one]
 by_cases hi:i<32
 ·simp[hi]
 ·have:x.testBit i=false:=Nat.testBit_lt_two_pow (Nat.lt_of_lt_of_le hx (by rw[show 4294967296=2 ^ 32 from rfl];exact Nat.pow_le_pow_right (by decide) (by omega)))
  simp[hi,this]
theorem not32 (x:Nat) (hx:x<4294967296):bits .xor .u32 IntKind.u32.max (x:Int)=((4294967295-x:Nat):Int):=by
 have:=u32_xor_nat 4294967295 x (by decide) hx
 rw[xor_all x hx]at this
 exact this
theorem wrap_add (a b:Nat):IntKind.u32.wrap ((a:Int)+b)=((Sha.add32 a b:Nat):Int):=by
 simp[IntKind.wrap,IntKind.bits,IntKind.signed,Sha.add32]
def outLH (s u:Sha.St) (j:Nat):List Nat:=[if 0<j then Sha.add32 s.a u.a else s.a,if 1<j then Sha.add32 s.b u.b else s.b,if 2<j then Sha.add32 s.c u.c else s.c,if 3<j then Sha.add32 s.d u.d else s.d,if 0<j then Sha.add32 s.e u.e else s.e,if 1<j then Sha.add32 s.f u.f else s.f,if 2<j then Sha.add32 s.g u.g else s.g,if 3<j then Sha.add32 s.h u.h else s.h]
def W8 (w:World) (g:Nat) (s:Sha.St):Prop:=Row32 w g 148 [s.a,s.b,s.c,s.d,s.e,s.f,s.g,s.h]
def W4 (w:World) (g:Nat) (a b c d:Nat):Prop:=Row32 w g 267 [a,b,c,d]
theorem W4.facts {w:World} {g a b c d:Nat} (h:W4 w g a b c d):w.cell? ⟨g,0,none⟩=some (.int .u32 (a:Int))∧w.cell? ⟨g,1,none⟩=some (.int .u32 (b:Int))∧w.cell? ⟨g,2,none⟩=some (.int .u32 (c:Int))∧w.cell? ⟨g,3,none⟩=some (.int .u32 (d:Int)) :=
 ⟨RowV.cell h rfl,RowV.cell h rfl,RowV.cell h rfl,RowV.cell h rfl⟩
theorem W8.facts {w:World} {g:Nat} {s:Sha.St} (h:W8 w g s):w.cell? ⟨g,0,none⟩=some (.int .u32 (s.a:Int))∧w.cell? ⟨g,1,none⟩=some (.int .u32 (s.b:Int))∧w.cell? ⟨g,2,none⟩=some (.int .u32 (s.c:Int))∧w.cell? ⟨g,3,none⟩=some (.int .u32 (s.d:Int))∧w.cell? ⟨g,4,none⟩=some (.int .u32 (s.e:Int))∧w.cell? ⟨g,5,none⟩=some (.int .u32 (s.f:Int))∧w.cell? ⟨g,6,none⟩=some (.int .u32 (s.g:Int))∧w.cell? ⟨g,7,none⟩=some (.int .u32 (s.h:Int)) :=
 ⟨RowV.cell h rfl,RowV.cell h rfl,RowV.cell h rfl,RowV.cell h rfl,RowV.cell h rfl,RowV.cell h rfl,RowV.cell h rfl,RowV.cell h rfl⟩
theorem compress_any (s:Sha.St) (hs:Sha.Ok s) (A:Option Addr) (c:Nat) (b:List Nat) (w:World) (hR:Reads w 1 A 64 (b8 b)) (hb:∀ x∈b,x<256) (hc:64≤c) (hc2:c≤1000000000) (hK:Ks w) :
  Calls Tryz.prog 178 #[.agg #[.int .u32 s.a,.int .u32 s.b,.int .u32 s.c,.int .u32 s.d,.int .u32 s.e,.int .u32 s.f,.int .u32 s.g,.int .u32 s.h],.slice A 64 c] w
   (Ret w (.agg #[.int .u32 (Sha.comp s b).a,.int .u32 (Sha.comp s b).b,.int .u32 (Sha.comp s b).c,.int .u32 (Sha.comp s b).d,.int .u32 (Sha.comp s b).e,.int .u32 (Sha.comp s b).f,.int .u32 (Sha.comp s b).g,.int .u32 (Sha.comp s b).h])):=by
 have hsc:=fun W (hb':Below w.heap.size w W)=>schedule_any A c b W (hR.keep hb') hb hc hc2
 have hSl:=Sha.sched_len b
 have hSt:=Sha.sched_lt hb
 obtain⟨R,hR'⟩:∃ R,R=Sha.comp s b:=⟨_,rfl⟩
 rw[←hR']
 have HRR:=Lib.hid hR'
 obtain⟨U,hU⟩:∃ U,U=Sha.upto b s:=⟨_,rfl⟩
 have hU0:U 0=s:=by rw[hU];rfl
 have hUs:∀ t,t<64→U (t+1)=Sha.round (U t) (Sha.ks.getD t 0) ((Sha.sched b).getD t 0):=fun t h=>by rw[hU];exact Sha.upto_succ b s t h
 have hUk:∀ t,Sha.Ok (U t):=fun t=>by rw[hU];exact Sha.upto_ok b hs t
 have hUR:R=⟨Sha.add32 s.a (U 64).a,Sha.add32 s.b (U 64).b,Sha.add32 s.c (U 64).c,Sha.add32 s.d (U 64).d,Sha.add32 s.e (U 64).e,Sha.add32 s.f (U 64).f,Sha.add32 s.g (U 64).g,Sha.add32 s.h (U 64).h⟩:=by rw[hR',hU];exact Sha.comp_eq s b
 generalize Sha.sched b=S at *
 have HSC:=Lib.hid hsc
 have HS:=Lib.hid hSl;have HT:=Lib.hid hSt;have HK:=Lib.hid hK
 have HU0:=Lib.hid hU0;have HUS:=Lib.hid hUs;have HUK:=Lib.hid hUk;have HUR:=Lib.hid hUR
 clear hsc hR hb hSl hSt hK hR' hU hU0 hUs hUk hUR HRR
 have hi:(Tryz.prog.info? 265).map (·.size)=some (w32 S).toArray.size:=by rw[List.size_toArray,w32_len,HS.out];kernel_rfl
 have h1:(w32 S).toArray.all (·.oneCell')=true:=by rw[List.all_toArray,List.all_eq_true];exact w32_one S
 obtain⟨X,hX⟩:∃ X,X=(w32 S).toArray:=⟨_,rfl⟩
 rw[←hX]at hi h1
 have HI:=Lib.hid hi;have H1:=Lib.hid h1;have HX:=Lib.hid hX
 simp only[←hX]at HSC
 clear hi h1 hX
 go_enter Tryz.func178,Tryz.ntmps178
 go_wp2_with fail
 refine (HSC.out _ belB).mono ?_
 rintro e w1 ⟨rfl,hb1⟩
 have hold:(w32 (List.replicate 64 0)).toArray.size=X.size:=by rw[HX.out];simp[w32_len,HS.out]
 have HO:=Lib.hid hold
 clear hold
 go_wp2_with (refine wpList_store_row rfl _ _ _ rfl w1.heap.size X rfl rfl _ (w32 (List.replicate 64 0)).toArray (Eq.trans (heap_alloc_new w1 _) rfl) HI.out HO.out H1.out ?_)
 try simp only[Act.put,List.setIfInBounds_toArray,List.set_cons_succ,List.set_cons_zero]
 have hs1:w.heap.size+2≤w1.heap.size:=by have:=hb1.size;(try simp at this);omega
 have hA8:W8 w1 w.heap.size s:=RowV.keep (Eq.trans (heap_alloc2_old w _ _) rfl) hb1
 have hZ8:Row32 w1 (w.heap.size+1) 148 (List.replicate 8 0):=RowV.keep (Eq.trans (heap_alloc2_new w _ _) rfl) hb1
 have hbw1:Below w.heap.size w w1:=(balloc (balloc (Below.refl _ _) _) _).trans (hb1.mono (by simp;omega))
 obtain⟨gw,hgw⟩:∃ gw,gw=w1.heap.size:=⟨_,rfl⟩
 rw[←hgw]
 generalize hw2:World.setRow _ _ _=w2
 have hB8:W8 w2 w.heap.size s:=by rw[←hw2,hgw];exact RowV.row_far (RowV.alloc hA8 _) _ _ (by omega)
 have hZ:Row32 w2 (w.heap.size+1) 148 (List.replicate 8 0):=by rw[←hw2,hgw];exact RowV.row_far (RowV.alloc hZ8 _) _ _ (by omega)
 have hW:Row32 w2 gw 265 S:=by
  rw[←hw2,hgw,HX.out]
  exact RowV.row (cs:=w32 (List.replicate 64 0)) (Eq.trans (heap_alloc_new w1 _) rfl) _
 have hbw:Below w.heap.size w w2:=by rw[←hw2,hgw];exact below_setRow (balloc hbw1 _) (by omega) _
 have hgs:w.heap.size+2≤gw:=by omega
 clear hw2 hgw hA8 hZ8 hb1 hs1 hbw1 HI H1 HO HX HSC
 have hgl:gw<w2.heap.size:=hW.lt
 have HB8:=Lib.hid hB8;have HZ:=Lib.hid hZ;have HW:=Lib.hid hW
 obtain⟨q0,q1,q2,q3,q4,q5,q6,q7⟩:=hB8.facts
 clear hB8 hZ hW
 have r4:∀ W,(Instr.arrayAt 267 (.slice (some ⟨w.heap.size,0,none⟩) 4 8)).run Tryz.prog W=.ok (.pointer (some ⟨w.heap.size,0,none⟩)) W:=fun W=>run_arrayAt4 W _ 4 8 (by decide)
 have r5:∀ W,(Instr.arrayAt 267 (.slice (some ⟨w.heap.size,4,none⟩) 4 4)).run Tryz.prog W=.ok (.pointer (some ⟨w.heap.size,4,none⟩)) W:=fun W=>run_arrayAt4 W _ 4 4 (by decide)
 have hlt2:w.heap.size+2<w2.heap.size:=by omega
 go_cut [6,7] (fun s6 s7 wx=>∃ gv ge:Nat,s6=.pointer (some ⟨gv,0,none⟩)∧s7=.pointer (some ⟨ge,0,none⟩)∧gv≠ge∧w2.heap.size≤gv∧w2.heap.size≤ge∧W4 wx gv s.a s.b s.c s.d∧W4 wx ge s.e s.f s.g s.h∧Below w2.heap.size w2 wx)
 case first =>
  refine wp_region_noPanic ?_
  refine wp_region_held_drew (S:=(fun w'=>w'.cell? ⟨w.heap.size,0,none⟩=some (.int .u32 (s.a:Int))∧w'.cell? ⟨w.heap.size,1,none⟩=some (.int .u32 (s.b:Int))∧w'.cell? ⟨w.heap.size,2,none⟩=some (.int .u32 (s.c:Int))∧w'.cell? ⟨w.heap.size,3,none⟩=some (.int .u32 (s.d:Int))∧w'.cell? ⟨w.heap.size,4,none⟩=some (.int .u32 (s.e:Int))∧w'.cell? ⟨w.heap.size,5,none⟩=some (.int .u32 (s.f:Int))∧w'.cell? ⟨w.heap.size,6,none⟩=some (.int .u32 (s.g:Int))∧w'.cell? ⟨w.heap.size,7,none⟩=some (.int .u32 (s.h:Int)))) (by kernel_rfl) ⟨q0,q1,q2,q3,q4,q5,q6,q7⟩ (fun hHeld=>?_)
  refine wpAnyH_take (i:=0) (oi:=_) (v:=?v1) rfl (by kernel_rfl) (by kernel_rfl) (by kernel_rfl) (fun _ _ _ h=>h) (Or.inl ⟨by rfl,?h1⟩) (by assumption) ?r1
  case h1=>(intro w hSw;(try dsimp only at hSw);go_simp;try with_reducible rfl)
  (try simp only[Act.put,List.setIfInBounds_toArray,List.set_cons_zero,List.set_cons_succ])
  refine wpAnyH_take (i:=1) (oi:=_) (v:=?v2) rfl (by kernel_rfl) (by kernel_rfl) (by kernel_rfl) (fun _ _ _ h=>h) (Or.inl ⟨by rfl,?h2⟩) (by assumption) ?r2
  case h2=>(intro w hSw;(try dsimp only at hSw);go_simp;try with_reducible rfl)
  (try simp only[Act.put,List.setIfInBounds_toArray,List.set_cons_zero,List.set_cons_succ])
  refine wpAnyH_take (i:=2) (oi:=_) (v:=?v3) rfl (by kernel_rfl) (by kernel_rfl) (by kernel_rfl) (fun _ _ _ h=>h) (Or.inl ⟨by rfl,?h3⟩) (by assumption) ?r3
  case h3=>(intro w hSw;(try dsimp only at hSw);go_simp;try with_reducible rfl)
  (try simp only[Act.put,List.setIfInBounds_toArray,List.set_cons_zero,List.set_cons_succ])
  refine wpAnyH_take (i:=3) (oi:=_) (v:=?v4) rfl (by kernel_rfl) (by kernel_rfl) (by kernel_rfl) (fun _ _ _ h=>h) (Or.inl ⟨by rfl,?h4⟩) (by assumption) ?r4
  case h4=>(intro w hSw;(try dsimp only at hSw);go_simp;try with_reducible rfl)
  (try simp only[Act.put,List.setIfInBounds_toArray,List.set_cons_zero,List.set_cons_succ])
  refine wpAnyH_take (i:=4) (oi:=_) (v:=?v5) rfl (by kernel_rfl) (by kernel_rfl) (by kernel_rfl) (fun _ _ _ h=>h) (Or.inl ⟨by rfl,?h5⟩) (by assumption) ?r5
  case h5=>(intro w hSw;(try dsimp only at hSw);go_simp;try with_reducible rfl)
  (try simp only[Act.put,List.setIfInBounds_toArray,List.set_cons_zero,List.set_cons_succ])
  refine wpAnyH_take (i:=5) (oi:=_) (v:=?v6) rfl (by kernel_rfl) (by kernel_rfl) (by kernel_rfl) (fun _ _ _ h=>h) (Or.inl ⟨by rfl,?h6⟩) (by assumption) ?r6
  case h6=>(intro w hSw;(try dsimp only at hSw);go_simp;try with_reducible rfl)
  (try simp only[Act.put,List.setIfInBounds_toArray,List.set_cons_zero,List.set_cons_succ])
  refine wpAnyH_ready (rs:=[6,7]) (by kernel_rfl) (by simp) ?_
  refine AllReadyH.cons (o:=_) rfl (fun K hK=>?_) ?_
  ·go_simp
   refine hK.out _ _ ?_ (fun hHeld=>?_)
   ·(try dsimp only)
    first | (go_split_ands;exact⟨cell_keep (balloc (Below.refl _ _) _) ‹_›,cell_keep (balloc (Below.refl _ _) _) ‹_›,cell_keep (balloc (Below.refl _ _) _) ‹_›,cell_keep (balloc (Below.refl _ _) _) ‹_›,cell_keep (balloc (Below.refl _ _) _) ‹_›,cell_keep (balloc (Below.refl _ _) _) ‹_›,cell_keep (balloc (Below.refl _ _) _) ‹_›,cell_keep (balloc (Below.refl _ _) _) ‹_›⟩) | go_keep
   clear hK K
   (try simp only[Act.put,List.setIfInBounds_toArray,List.set_cons_zero,List.set_cons_succ])
   refine wpAnyH_ready (rs:=[7]) (by kernel_rfl) (by simp) ?_
   refine AllReadyH.cons (o:=_) rfl (fun K hK=>?_) ?_
   ·go_simp
    refine hK.out _ _ ?_ (fun hHeld=>?_)
    ·(try dsimp only)
     first | (go_split_ands;exact⟨cell_keep (balloc (Below.refl _ _) _) ‹_›,cell_keep (balloc (Below.refl _ _) _) ‹_›,cell_keep (balloc (Below.refl _ _) _) ‹_›,cell_keep (balloc (Below.refl _ _) _) ‹_›,cell_keep (balloc (Below.refl _ _) _) ‹_›,cell_keep (balloc (Below.refl _ _) _) ‹_›,cell_keep (balloc (Below.refl _ _) _) ‹_›,cell_keep (balloc (Below.refl _ _) _) ‹_›⟩) | go_keep
    clear hK K
    (try simp only[Act.put,List.setIfInBounds_toArray,List.set_cons_zero,List.set_cons_succ])
    refine wpAnyH_ready (rs:=[8]) (by kernel_rfl) (by simp) ?_
    refine AllReadyH.cons (o:=_) rfl (fun K hK=>?_) ?_
    ·go_simp
     refine hK.out _ _ ?_ (fun hHeld=>?_)
     ·(try dsimp only)
      first | (go_split_ands;exact⟨cell_keep (balloc (Below.refl _ _) _) ‹_›,cell_keep (balloc (Below.refl _ _) _) ‹_›,cell_keep (balloc (Below.refl _ _) _) ‹_›,cell_keep (balloc (Below.refl _ _) _) ‹_›,cell_keep (balloc (Below.refl _ _) _) ‹_›,cell_keep (balloc (Below.refl _ _) _) ‹_›,cell_keep (balloc (Below.refl _ _) _) ‹_›,cell_keep (balloc (Below.refl _ _) _) ‹_›⟩) | go_keep
     clear hK K
     (try simp only[Act.put,List.setIfInBounds_toArray,List.set_cons_zero,List.set_cons_succ])
     refine wpAnyH_ready (rs:=[9]) (by kernel_rfl) (by simp) ?_
     refine AllReadyH.cons (o:=_) rfl (fun K hK=>?_) ?_
     ·go_simp
      refine hK.out _ _ ?_ (fun hHeld=>?_)
      ·(try dsimp only)
       first | (go_split_ands;exact⟨cell_keep (balloc (Below.refl _ _) _) ‹_›,cell_keep (balloc (Below.refl _ _) _) ‹_›,cell_keep (balloc (Below.refl _ _) _) ‹_›,cell_keep (balloc (Below.refl _ _) _) ‹_›,cell_keep (balloc (Below.refl _ _) _) ‹_›,cell_keep (balloc (Below.refl _ _) _) ‹_›,cell_keep (balloc (Below.refl _ _) _) ‹_›,cell_keep (balloc (Below.refl _ _) _) ‹_›⟩) | go_keep
      clear hK K
      (try simp only[Act.put,List.setIfInBounds_toArray,List.set_cons_zero,List.set_cons_succ])
      refine wpAnyH_done (by kernel_rfl) ?_ _
      refine NoPanic.normal ?_
      go_wp2_with fail
      go_meet
      exact⟨_,_,rfl,rfl,by omega,by omega,by omega,heap_alloc2_old w2 _ _,heap_alloc2_new w2 _ _,belB⟩
     exact AllReadyH.nil
    exact AllReadyH.nil
   exact AllReadyH.nil
  refine AllReadyH.cons (o:=_) rfl (fun K hK=>?_) ?_
  ·go_simp
   refine hK.out _ _ ?_ (fun hHeld=>?_)
   ·(try dsimp only)
    first | (go_split_ands;exact⟨cell_keep (balloc (Below.refl _ _) _) ‹_›,cell_keep (balloc (Below.refl _ _) _) ‹_›,cell_keep (balloc (Below.refl _ _) _) ‹_›,cell_keep (balloc (Below.refl _ _) _) ‹_›,cell_keep (balloc (Below.refl _ _) _) ‹_›,cell_keep (balloc (Below.refl _ _) _) ‹_›,cell_keep (balloc (Below.refl _ _) _) ‹_›,cell_keep (balloc (Below.refl _ _) _) ‹_›⟩) | go_keep
   clear hK K
   (try simp only[Act.put,List.setIfInBounds_toArray,List.set_cons_zero,List.set_cons_succ])
   refine wpAnyH_ready (rs:=[6]) (by kernel_rfl) (by simp) ?_
   refine AllReadyH.cons (o:=_) rfl (fun K hK=>?_) ?_
   ·go_simp
    refine hK.out _ _ ?_ (fun hHeld=>?_)
    ·(try dsimp only)
     first | (go_split_ands;exact⟨cell_keep (balloc (Below.refl _ _) _) ‹_›,cell_keep (balloc (Below.refl _ _) _) ‹_›,cell_keep (balloc (Below.refl _ _) _) ‹_›,cell_keep (balloc (Below.refl _ _) _) ‹_›,cell_keep (balloc (Below.refl _ _) _) ‹_›,cell_keep (balloc (Below.refl _ _) _) ‹_›,cell_keep (balloc (Below.refl _ _) _) ‹_›,cell_keep (balloc (Below.refl _ _) _) ‹_›⟩) | go_keep
    clear hK K
    (try simp only[Act.put,List.setIfInBounds_toArray,List.set_cons_zero,List.set_cons_succ])
    refine wpAnyH_ready (rs:=[8]) (by kernel_rfl) (by simp) ?_
    refine AllReadyH.cons (o:=_) rfl (fun K hK=>?_) ?_
    ·go_simp
     refine hK.out _ _ ?_ (fun hHeld=>?_)
     ·(try dsimp only)
      first | (go_split_ands;exact⟨cell_keep (balloc (Below.refl _ _) _) ‹_›,cell_keep (balloc (Below.refl _ _) _) ‹_›,cell_keep (balloc (Below.refl _ _) _) ‹_›,cell_keep (balloc (Below.refl _ _) _) ‹_›,cell_keep (balloc (Below.refl _ _) _) ‹_›,cell_keep (balloc (Below.refl _ _) _) ‹_›,cell_keep (balloc (Below.refl _ _) _) ‹_›,cell_keep (balloc (Below.refl _ _) _) ‹_›⟩) | go_keep
     clear hK K
     (try simp only[Act.put,List.setIfInBounds_toArray,List.set_cons_zero,List.set_cons_succ])
     refine wpAnyH_ready (rs:=[9]) (by kernel_rfl) (by simp) ?_
     refine AllReadyH.cons (o:=_) rfl (fun K hK=>?_) ?_
     ·go_simp
      refine hK.out _ _ ?_ (fun hHeld=>?_)
      ·(try dsimp only)
       first | (go_split_ands;exact⟨cell_keep (balloc (Below.refl _ _) _) ‹_›,cell_keep (balloc (Below.refl _ _) _) ‹_›,cell_keep (balloc (Below.refl _ _) _) ‹_›,cell_keep (balloc (Below.refl _ _) _) ‹_›,cell_keep (balloc (Below.refl _ _) _) ‹_›,cell_keep (balloc (Below.refl _ _) _) ‹_›,cell_keep (balloc (Below.refl _ _) _) ‹_›,cell_keep (balloc (Below.refl _ _) _) ‹_›⟩) | go_keep
      clear hK K
      (try simp only[Act.put,List.setIfInBounds_toArray,List.set_cons_zero,List.set_cons_succ])
      refine wpAnyH_done (by kernel_rfl) ?_ _
      refine NoPanic.normal ?_
      go_wp2_with fail
      go_meet
      exact⟨_,_,rfl,rfl,by omega,by omega,by omega,heap_alloc2_new w2 _ _,heap_alloc2_old w2 _ _,belB⟩
     exact AllReadyH.nil
    exact AllReadyH.nil
   exact AllReadyH.nil
  exact AllReadyH.nil
 case rest =>
  clear r4 r5 q0 q1 q2 q3 q4 q5 q6 q7
  obtain⟨gv,ge,rfl,rfl,hne,hg1,hg2,hV,hE,hbc⟩:=hcut
  have hne2:ge≠gv:=fun h=>hne h.symm
  have HB:Hid (W8 wc w.heap.size s):=Lib.hid (RowV.keep HB8.out hbc)
  have HZ':Hid (Row32 wc (w.heap.size+1) 148 (List.replicate 8 0)):=Lib.hid (RowV.keep HZ.out hbc)
  have HW':Hid (Row32 wc gw 265 S):=Lib.hid (RowV.keep HW.out hbc)
  have hbw':Below w.heap.size w wc:=hbw.trans (hbc.mono (by omega))
  have HV:=Lib.hid hV;have HE:=Lib.hid hE
  obtain⟨kt,kf,hks⟩:=HK.out.keep hbw'
  have hki:(Tryz.prog.info? 265).map (·.size)=some (w32 Sha.ks).toArray.size:=by rw[List.size_toArray,w32_len,Sha.ks_len];kernel_rfl
  have hidx:=fun (t:Nat) (ht:t<64) (W:World)=>run_index_w32 W Sha.ks Sha.ks_len t ht
  generalize (w32 Sha.ks).toArray=KA at *
  have HKS:=Lib.hid hks;have HKI:=Lib.hid hki;have HIX:=Lib.hid hidx
  clear HB8 HZ HW hbw hbc hks hki hidx hV hE HK
  have hgl2:w.heap.size+1<w2.heap.size:=by omega
  go_wp2_with (refine wpList_load_row rfl _ _ rfl 0 rfl kt KA kf _ HKS.out Tryz.underlying265 rfl HKI.out ?_)
  try simp only[Act.put,List.setIfInBounds_toArray,List.set_cons_succ,List.set_cons_zero]
  clear HKS HKI
  go_loopw [22] (fun i wr=>∃ t:Nat,t≤64∧i=.int .i64 t∧Hid (W4 wr gv (U t).a (U t).b (U t).c (U t).d)∧Hid (W4 wr ge (U t).e (U t).f (U t).g (U t).h)∧Hid (W8 wr w.heap.size s)∧Hid (Row32 wr (w.heap.size+1) 148 (List.replicate 8 0))∧Hid (Row32 wr gw 265 S)∧Below w.heap.size w wr) (fun i _=>64-(intOf i).toNat)
  case atStart=>exact⟨0,by omega,rfl,Lib.hid (by rw[HU0.out];exact HV.out),Lib.hid (by rw[HU0.out];exact HE.out),HB,HZ',HW',hbw'⟩
  case round =>
   obtain⟨t,ht,rfl,HVt,HEt,HBt,HZt,HWt,hbt⟩:=hrel
   clear HV HE HB HZ' HW' hbw'
   have g1:gv<wr.heap.size:=HVt.out.lt
   have g2:ge<wr.heap.size:=HEt.out.lt
   by_cases h64:t<64
   ·have hus:=HUS.out t h64
    have hok:=HUK.out t
    obtain⟨un,hun⟩:∃ un,un=U (t+1):=⟨_,rfl⟩
    obtain⟨ut,hut⟩:∃ ut,ut=U t:=⟨_,rfl⟩
    rw[←hun,←hut]at hus
    rw[←hut]at hok HVt HEt
    have HN:=Lib.hid hun
    clear hun hut
    obtain⟨va,vb,vc,vd,ve,vf,vg,vh⟩:=ut
    obtain⟨oa,ob,oc,od,oe,of,og,oh⟩:=hok
    dsimp only at *
    obtain⟨c0,c1,c2,c3⟩:=HVt.out.facts
    obtain⟨d0,d1,d2,d3⟩:=HEt.out.facts
    have f0:=HVt.out.free 0
    have f1:=HVt.out.free 1
    have f2:=HVt.out.free 2
    have f3:=HVt.out.free 3
    have k0:=HEt.out.free 0
    have k1:=HEt.out.free 1
    have k2:=HEt.out.free 2
    have k3:=HEt.out.free 3
    have cw:=HWt.out.cell (k:=t) (by rw[HS.out];exact h64)
    have ox:=HT.out t
    have ok:=Sha.ks_lt t
    have hix:=fun W=>HIX.out t h64 W
    generalize Sha.ks.getD t 0=kk at *
    generalize S.getD t 0=xx at *
    have hm1:∀ W,Calls Tryz.prog 231 #[.int .u32 ve,.int .i64 6,.int .i64 11,.int .i64 25] W (fun e w'=>e=.returned (.int .u32 (Sha.mix ve 6 11 25:Nat))∧w'=W):=fun W=>mix_same ve 6 11 25 W oe (by omega) (by omega) (by omega) (by omega) (by omega) (by omega)
    have hm2:∀ W,Calls Tryz.prog 231 #[.int .u32 va,.int .i64 2,.int .i64 13,.int .i64 22] W (fun e w'=>e=.returned (.int .u32 (Sha.mix va 2 13 22:Nat))∧w'=W):=fun W=>mix_same va 2 13 22 W oa (by omega) (by omega) (by omega) (by omega) (by omega) (by omega)
    have b0:=not32 ve oe
    have b1:=u32_and_nat ve vf oe of
    have b2:=u32_and_nat (4294967295-ve) vg (by omega) og
    have b3:=u32_xor_nat (ve &&& vf) ((4294967295-ve) &&& vg) (Sha.land_lt of) (Sha.land_lt og)
    have b4:=u32_and_nat va vb oa ob
    have b5:=u32_and_nat va vc oa oc
    have b6:=u32_and_nat vb vc ob oc
    have b7:=u32_xor_nat (va &&& vb) (va &&& vc) (Sha.land_lt ob) (Sha.land_lt oc)
    have b8':=u32_xor_nat ((va &&& vb) ^^^ (va &&& vc)) (vb &&& vc) (Sha.xor_lt (Sha.land_lt ob) (Sha.land_lt oc)) (Sha.land_lt oc)
    unfold Sha.round at hus
    dsimp only at hus
    have ln:=Sha.mix_lt ve 6 11 25 oe
    have lm:=Sha.mix_lt va 2 13 22 oa
    generalize Sha.mix ve 6 11 25=M1 at *
    generalize Sha.mix va 2 13 22=M2 at *
    have s1:=wrap_add vh M1
    have s2:=wrap_add (Sha.add32 vh M1) ((ve &&& vf) ^^^ ((4294967295-ve) &&& vg))
    have s3:=wrap_add (Sha.add32 (Sha.add32 vh M1) ((ve &&& vf) ^^^ ((4294967295-ve) &&& vg))) kk
    have s4:=wrap_add (Sha.add32 (Sha.add32 (Sha.add32 vh M1) ((ve &&& vf) ^^^ ((4294967295-ve) &&& vg))) kk) xx
    have s5:=wrap_add M2 (((va &&& vb) ^^^ (va &&& vc)) ^^^ (vb &&& vc))
    generalize 4294967295-ve=nve at *
    have HUN:=Lib.hid hus
    have HM1:=Lib.hid hm1;have HM2:=Lib.hid hm2
    clear hus hm1 hm2
    go_wp2_with fail
    go_quiet ((go_at_call 231;exact Calls.quiet_of_same (HM1.out _)))
    go_wp2_with fail
    obtain⟨wq,hwq⟩:∃ wq:World,wq=wr.drewN nq:=⟨_,rfl⟩
    rw[←hwq]
    replace HVt:Hid (W4 wq gv va vb vc vd):=Lib.hid (by rw[hwq];exact HVt.out)
    replace HEt:Hid (W4 wq ge ve vf vg vh):=Lib.hid (by rw[hwq];exact HEt.out)
    replace HBt:Hid (W8 wq w.heap.size s):=Lib.hid (by rw[hwq];exact HBt.out)
    replace HZt:Hid (Row32 wq (w.heap.size+1) 148 (List.replicate 8 0)):=Lib.hid (by rw[hwq];exact HZt.out)
    replace HWt:Hid (Row32 wq gw 265 S):=Lib.hid (by rw[hwq];exact HWt.out)
    replace cw:wq.cell? ⟨gw,t,none⟩=some (.int .u32 xx):=by rw[hwq];exact cw
    replace hbt:Below w.heap.size w wq:=by rw[hwq];exact bdrewN hbt _
    replace g1:gv<wq.heap.size:=HVt.out.lt
    replace g2:ge<wq.heap.size:=HEt.out.lt
    clear hwq c0 c1 c2 c3 d0 d1 d2 d3 f0 f1 f2 f3 k0 k1 k2 k3
    obtain⟨c0,c1,c2,c3⟩:=HVt.out.facts
    obtain⟨d0,d1,d2,d3⟩:=HEt.out.facts
    have f0:=HVt.out.free 0
    have f1:=HVt.out.free 1
    have f2:=HVt.out.free 2
    have f3:=HVt.out.free 3
    have k0:=HEt.out.free 0
    have k1:=HEt.out.free 1
    have k2:=HEt.out.free 2
    have k3:=HEt.out.free 3
    go_quiet ((go_at_call 231;exact Calls.quiet_of_same (HM2.out _)))
    obtain⟨wz,hwz⟩:∃ wz:World,wz=wq.drewN nq:=⟨_,rfl⟩
    rw[←hwz]
    replace HVt:Hid (W4 wz gv va vb vc vd):=Lib.hid (by rw[hwz];exact HVt.out)
    replace HEt:Hid (W4 wz ge ve vf vg vh):=Lib.hid (by rw[hwz];exact HEt.out)
    replace HBt:Hid (W8 wz w.heap.size s):=Lib.hid (by rw[hwz];exact HBt.out)
    replace HZt:Hid (Row32 wz (w.heap.size+1) 148 (List.replicate 8 0)):=Lib.hid (by rw[hwz];exact HZt.out)
    replace HWt:Hid (Row32 wz gw 265 S):=Lib.hid (by rw[hwz];exact HWt.out)
    replace cw:wz.cell? ⟨gw,t,none⟩=some (.int .u32 xx):=by rw[hwz];exact cw
    replace hbt:Below w.heap.size w wz:=by rw[hwz];exact bdrewN hbt _
    replace g1:gv<wz.heap.size:=HVt.out.lt
    replace g2:ge<wz.heap.size:=HEt.out.lt
    clear hwz c0 c1 c2 c3 d0 d1 d2 d3 f0 f1 f2 f3 k0 k1 k2 k3
    obtain⟨c0,c1,c2,c3⟩:=HVt.out.facts
    obtain⟨d0,d1,d2,d3⟩:=HEt.out.facts
    have f0:=HVt.out.free 0
    have f1:=HVt.out.free 1
    have f2:=HVt.out.free 2
    have f3:=HVt.out.free 3
    have k0:=HEt.out.free 0
    have k1:=HEt.out.free 1
    have k2:=HEt.out.free 2
    have k3:=HEt.out.free 3
    go_wp2_with fail
    have e1:((vd:Int)+(((Sha.add32 vh M1:Nat):Int)+((ve &&& vf ^^^ nve &&& vg:Nat):Int)+kk+xx)) % 4294967296=((un.e:Nat):Int):=by
     rw[HUN.out];dsimp only;generalize ve &&& vf ^^^ nve &&& vg=z;unfold Sha.add32;omega
    have e2:(((Sha.add32 vh M1:Nat):Int)+((ve &&& vf ^^^ nve &&& vg:Nat):Int)+kk+xx+((Sha.add32 M2 (va &&& vb ^^^ va &&& vc ^^^ vb &&& vc):Nat):Int)) % 4294967296=((un.a:Nat):Int):=by
     rw[HUN.out];dsimp only;generalize ve &&& vf ^^^ nve &&& vg=z;generalize va &&& vb ^^^ va &&& vc ^^^ vb &&& vc=y;unfold Sha.add32;omega
    rw[e1,e2]
    refine⟨⟨t+1,by omega,by go_num,Lib.hid ?_,Lib.hid ?_,Lib.hid (far4 (far4 HBt.out (by omega) _ _ _ _) (by omega) _ _ _ _),Lib.hid (far4 (far4 HZt.out (by omega) _ _ _ _) (by omega) _ _ _ _),Lib.hid (far4 (far4 HWt.out (by omega) _ _ _ _) (by omega) _ _ _ _),below4 (below4 hbt (by omega) _ _ _ _) (by omega) _ _ _ _⟩,by simp[intOf];omega⟩
    ·have:=W4_put (far4 HVt.out hne (.int .u32 (un.e:Nat)) (.int .u32 (ve:Int)) (.int .u32 (vf:Int)) (.int .u32 (vg:Int))) un.a va vb vc
     rw[←HN.out]
     rw[HUN.out]at this ⊢
     exact this
    ·have:=far4 (W4_put HEt.out un.e ve vf vg) hne2 (.int .u32 (un.a:Nat)) (.int .u32 (va:Int)) (.int .u32 (vb:Int)) (.int .u32 (vc:Int))
     rw[←HN.out]
     rw[HUN.out]at this ⊢
     exact this
   ·have he:t=64:=by omega
    rw[he]at HVt HEt
    clear he
    obtain⟨u,hu⟩:∃ u,u=U 64:=⟨_,rfl⟩
    rw[←hu]at HVt HEt
    have hr:=HUR.out
    rw[←hu]at hr
    have HR:=Lib.hid hr
    clear hu hr
    go_wp2_with fail
    obtain⟨wo,rfl⟩:∃ wo:World,wo=wr:=⟨_,rfl⟩
    go_loopw [94] (fun i wi=>∃ j:Nat,j≤4∧i=.int .i64 j∧Hid (W4 wi gv u.a u.b u.c u.d)∧Hid (W4 wi ge u.e u.f u.g u.h)∧Hid (Row32 wi w.heap.size 148 (outLH s u j))∧Hid (Row32 wi (w.heap.size+1) 148 (List.replicate 8 0))∧Below w.heap.size w wi) (fun i _=>4-(intOf i).toNat)
    case atStart=>exact⟨0,by omega,rfl,HVt,HEt,HBt,HZt,hbt⟩
    case round =>
     obtain⟨j,hj,rfl,HVj,HEj,HBj,HZj,hbj⟩:=hrel
     by_cases hj4:j<4
     ·have hj':j=0∨j=1∨j=2∨j=3:=by omega
      clear hj4 hj
      rcases hj' with rfl | rfl | rfl | rfl
      ·have HB0:Row32 wr w.heap.size 148 [s.a,s.b,s.c,s.d,s.e,s.f,s.g,s.h]:=HBj.out
       obtain⟨wd,hwd⟩:∃ x:World,x=wr.drew:=⟨_,rfl⟩
       have V:W4 wd gv u.a u.b u.c u.d:=by rw[hwd];exact HVj.out
       have E:W4 wd ge u.e u.f u.g u.h:=by rw[hwd];exact HEj.out
       have B:Row32 wd w.heap.size 148 [s.a,s.b,s.c,s.d,s.e,s.f,s.g,s.h]:=by rw[hwd];exact HB0
       have Z:Row32 wd (w.heap.size+1) 148 (List.replicate 8 0):=by rw[hwd];exact HZj.out
       have hbd:Below w.heap.size w wd:=by rw[hwd];exact hbj.drew
       have x1:wd.cell? ⟨w.heap.size,0,none⟩=some (.int .u32 (s.a:Int)):=RowV.cell B rfl
       have x2:wd.frozen? ⟨w.heap.size,0,none⟩=false:=RowV.free B 0
       have x3:wd.cell? ⟨gv,0,none⟩=some (.int .u32 (u.a:Int)):=RowV.cell V rfl
       have a1:=wrap_add s.a u.a
       have HWD:=Lib.hid hwd;have HVd:=Lib.hid V;have HEd:=Lib.hid E;have HBd:=Lib.hid B;have HZd:=Lib.hid Z
       clear hwd V E B Z HB0
       go_wp2_with fail
       refine wp_region_still_tail 7 (by kernel_rfl) (by kernel_rfl) ?_
       simp only[List.take_succ_cons,List.take_zero,List.drop_succ_cons,List.drop_zero]
       change wpStill _ _ wr.drew _ _ _
       rw[←HWD.out]
       repeat still_step
       refine wpStill_nil ?_
       change wpList _ _ _ _ _ wr.drew
       rw[←HWD.out]
       go_wp2_with fail
       clear x1 x2 x3 a1 HWD
       obtain⟨we,hwe⟩:∃ x:World,x=(wd.setCell ⟨w.heap.size,0,none⟩ (.int .u32 (Sha.add32 s.a u.a:Nat))).drew:=⟨_,rfl⟩
       have V:W4 we gv u.a u.b u.c u.d:=by rw[hwe];exact HVd.out.far _ _ (by simp;omega)
       have E:W4 we ge u.e u.f u.g u.h:=by rw[hwe];exact HEd.out.far _ _ (by simp;omega)
       have B:Row32 we w.heap.size 148 [Sha.add32 s.a u.a,s.b,s.c,s.d,s.e,s.f,s.g,s.h]:=by rw[hwe];exact HBd.out.set_ 0 _
       have Z:Row32 we (w.heap.size+1) 148 (List.replicate 8 0):=by rw[hwe];exact HZd.out.far _ _ (by simp)
       have hbe:Below w.heap.size w we:=by rw[hwe];exact (hbd.setCell (p:=⟨w.heap.size,0,none⟩) (Nat.le_refl _) _).drew
       have y1:IntKind.i64.wrap (4:Int)=4:=IntWalk.i64_in _ (by omega)
       have x1:we.cell? ⟨w.heap.size,4,none⟩=some (.int .u32 (s.e:Int)):=RowV.cell B rfl
       have x2:we.frozen? ⟨w.heap.size,4,none⟩=false:=RowV.free B 4
       have x3:we.cell? ⟨ge,0,none⟩=some (.int .u32 (u.e:Int)):=RowV.cell E rfl
       have a1:=wrap_add s.e u.e
       have HWE:=Lib.hid hwe;have HVe:=Lib.hid V;have HEe:=Lib.hid E;have HBe:=Lib.hid B;have HZe:=Lib.hid Z
       clear hwe V E B Z HBd HVd HEd HZd
       refine wp_region_still_tail 8 (by kernel_rfl) (by kernel_rfl) ?_
       simp only[List.take_succ_cons,List.take_zero,List.drop_succ_cons,List.drop_zero]
       change wpStill _ _ (wd.setCell ⟨w.heap.size,0,none⟩ (.int .u32 (Sha.add32 s.a u.a:Nat))).drew _ _ _
       rw[←HWE.out]
       repeat still_step
       refine wpStill_nil ?_
       change wpList _ _ _ _ _ (wd.setCell ⟨w.heap.size,0,none⟩ (.int .u32 (Sha.add32 s.a u.a:Nat))).drew
       rw[←HWE.out]
       go_wp2_with fail
       have hB2:Row32 (we.setCell ⟨w.heap.size,4,none⟩ (.int .u32 (Sha.add32 s.e u.e:Nat))) w.heap.size 148 [Sha.add32 s.a u.a,s.b,s.c,s.d,Sha.add32 s.e u.e,s.f,s.g,s.h]:=HBe.out.set_ 4 _
       exact⟨⟨1,by omega,by go_num,Lib.hid (HVe.out.far _ _ (by simp;omega)),Lib.hid (HEe.out.far _ _ (by simp;omega)),Lib.hid hB2,Lib.hid (HZe.out.far _ _ (by simp)),hbe.setCell (p:=⟨w.heap.size,4,none⟩) (Nat.le_refl _) _⟩,by simp[intOf]⟩
      ·have HB0:Row32 wr w.heap.size 148 [Sha.add32 s.a u.a,s.b,s.c,s.d,Sha.add32 s.e u.e,s.f,s.g,s.h]:=HBj.out
       obtain⟨wd,hwd⟩:∃ x:World,x=wr.drew:=⟨_,rfl⟩
       have V:W4 wd gv u.a u.b u.c u.d:=by rw[hwd];exact HVj.out
       have E:W4 wd ge u.e u.f u.g u.h:=by rw[hwd];exact HEj.out
       have B:Row32 wd w.heap.size 148 [Sha.add32 s.a u.a,s.b,s.c,s.d,Sha.add32 s.e u.e,s.f,s.g,s.h]:=by rw[hwd];exact HB0
       have Z:Row32 wd (w.heap.size+1) 148 (List.replicate 8 0):=by rw[hwd];exact HZj.out
       have hbd:Below w.heap.size w wd:=by rw[hwd];exact hbj.drew
       have x1:wd.cell? ⟨w.heap.size,1,none⟩=some (.int .u32 (s.b:Int)):=RowV.cell B rfl
       have x2:wd.frozen? ⟨w.heap.size,1,none⟩=false:=RowV.free B 1
       have x3:wd.cell? ⟨gv,1,none⟩=some (.int .u32 (u.b:Int)):=RowV.cell V rfl
       have a1:=wrap_add s.b u.b
       have HWD:=Lib.hid hwd;have HVd:=Lib.hid V;have HEd:=Lib.hid E;have HBd:=Lib.hid B;have HZd:=Lib.hid Z
       clear hwd V E B Z HB0
       go_wp2_with fail
       refine wp_region_still_tail 7 (by kernel_rfl) (by kernel_rfl) ?_
       simp only[List.take_succ_cons,List.take_zero,List.drop_succ_cons,List.drop_zero]
       change wpStill _ _ wr.drew _ _ _
       rw[←HWD.out]
       repeat still_step
       refine wpStill_nil ?_
       change wpList _ _ _ _ _ wr.drew
       rw[←HWD.out]
       go_wp2_with fail
       clear x1 x2 x3 a1 HWD
       obtain⟨we,hwe⟩:∃ x:World,x=(wd.setCell ⟨w.heap.size,1,none⟩ (.int .u32 (Sha.add32 s.b u.b:Nat))).drew:=⟨_,rfl⟩
       have V:W4 we gv u.a u.b u.c u.d:=by rw[hwe];exact HVd.out.far _ _ (by simp;omega)
       have E:W4 we ge u.e u.f u.g u.h:=by rw[hwe];exact HEd.out.far _ _ (by simp;omega)
       have B:Row32 we w.heap.size 148 [Sha.add32 s.a u.a,Sha.add32 s.b u.b,s.c,s.d,Sha.add32 s.e u.e,s.f,s.g,s.h]:=by rw[hwe];exact HBd.out.set_ 1 _
       have Z:Row32 we (w.heap.size+1) 148 (List.replicate 8 0):=by rw[hwe];exact HZd.out.far _ _ (by simp)
       have hbe:Below w.heap.size w we:=by rw[hwe];exact (hbd.setCell (p:=⟨w.heap.size,1,none⟩) (Nat.le_refl _) _).drew
       have y1:IntKind.i64.wrap (5:Int)=5:=IntWalk.i64_in _ (by omega)
       have x1:we.cell? ⟨w.heap.size,5,none⟩=some (.int .u32 (s.f:Int)):=RowV.cell B rfl
       have x2:we.frozen? ⟨w.heap.size,5,none⟩=false:=RowV.free B 5
       have x3:we.cell? ⟨ge,1,none⟩=some (.int .u32 (u.f:Int)):=RowV.cell E rfl
       have a1:=wrap_add s.f u.f
       have HWE:=Lib.hid hwe;have HVe:=Lib.hid V;have HEe:=Lib.hid E;have HBe:=Lib.hid B;have HZe:=Lib.hid Z
       clear hwe V E B Z HBd HVd HEd HZd
       refine wp_region_still_tail 8 (by kernel_rfl) (by kernel_rfl) ?_
       simp only[List.take_succ_cons,List.take_zero,List.drop_succ_cons,List.drop_zero]
       change wpStill _ _ (wd.setCell ⟨w.heap.size,1,none⟩ (.int .u32 (Sha.add32 s.b u.b:Nat))).drew _ _ _
       rw[←HWE.out]
       repeat still_step
       refine wpStill_nil ?_
       change wpList _ _ _ _ _ (wd.setCell ⟨w.heap.size,1,none⟩ (.int .u32 (Sha.add32 s.b u.b:Nat))).drew
       rw[←HWE.out]
       go_wp2_with fail
       have hB2:Row32 (we.setCell ⟨w.heap.size,5,none⟩ (.int .u32 (Sha.add32 s.f u.f:Nat))) w.heap.size 148 [Sha.add32 s.a u.a,Sha.add32 s.b u.b,s.c,s.d,Sha.add32 s.e u.e,Sha.add32 s.f u.f,s.g,s.h]:=HBe.out.set_ 5 _
       exact⟨⟨2,by omega,by go_num,Lib.hid (HVe.out.far _ _ (by simp;omega)),Lib.hid (HEe.out.far _ _ (by simp;omega)),Lib.hid hB2,Lib.hid (HZe.out.far _ _ (by simp)),hbe.setCell (p:=⟨w.heap.size,5,none⟩) (Nat.le_refl _) _⟩,by simp[intOf]⟩
      ·have HB0:Row32 wr w.heap.size 148 [Sha.add32 s.a u.a,Sha.add32 s.b u.b,s.c,s.d,Sha.add32 s.e u.e,Sha.add32 s.f u.f,s.g,s.h]:=HBj.out
       obtain⟨wd,hwd⟩:∃ x:World,x=wr.drew:=⟨_,rfl⟩
       have V:W4 wd gv u.a u.b u.c u.d:=by rw[hwd];exact HVj.out
       have E:W4 wd ge u.e u.f u.g u.h:=by rw[hwd];exact HEj.out
       have B:Row32 wd w.heap.size 148 [Sha.add32 s.a u.a,Sha.add32 s.b u.b,s.c,s.d,Sha.add32 s.e u.e,Sha.add32 s.f u.f,s.g,s.h]:=by rw[hwd];exact HB0
       have Z:Row32 wd (w.heap.size+1) 148 (List.replicate 8 0):=by rw[hwd];exact HZj.out
       have hbd:Below w.heap.size w wd:=by rw[hwd];exact hbj.drew
       have x1:wd.cell? ⟨w.heap.size,2,none⟩=some (.int .u32 (s.c:Int)):=RowV.cell B rfl
       have x2:wd.frozen? ⟨w.heap.size,2,none⟩=false:=RowV.free B 2
       have x3:wd.cell? ⟨gv,2,none⟩=some (.int .u32 (u.c:Int)):=RowV.cell V rfl
       have a1:=wrap_add s.c u.c
       have HWD:=Lib.hid hwd;have HVd:=Lib.hid V;have HEd:=Lib.hid E;have HBd:=Lib.hid B;have HZd:=Lib.hid Z
       clear hwd V E B Z HB0
       go_wp2_with fail
       refine wp_region_still_tail 7 (by kernel_rfl) (by kernel_rfl) ?_
       simp only[List.take_succ_cons,List.take_zero,List.drop_succ_cons,List.drop_zero]
       change wpStill _ _ wr.drew _ _ _
       rw[←HWD.out]
       repeat still_step
       refine wpStill_nil ?_
       change wpList _ _ _ _ _ wr.drew
       rw[←HWD.out]
       go_wp2_with fail
       clear x1 x2 x3 a1 HWD
       obtain⟨we,hwe⟩:∃ x:World,x=(wd.setCell ⟨w.heap.size,2,none⟩ (.int .u32 (Sha.add32 s.c u.c:Nat))).drew:=⟨_,rfl⟩
       have V:W4 we gv u.a u.b u.c u.d:=by rw[hwe];exact HVd.out.far _ _ (by simp;omega)
       have E:W4 we ge u.e u.f u.g u.h:=by rw[hwe];exact HEd.out.far _ _ (by simp;omega)
       have B:Row32 we w.heap.size 148 [Sha.add32 s.a u.a,Sha.add32 s.b u.b,Sha.add32 s.c u.c,s.d,Sha.add32 s.e u.e,Sha.add32 s.f u.f,s.g,s.h]:=by rw[hwe];exact HBd.out.set_ 2 _
       have Z:Row32 we (w.heap.size+1) 148 (List.replicate 8 0):=by rw[hwe];exact HZd.out.far _ _ (by simp)
       have hbe:Below w.heap.size w we:=by rw[hwe];exact (hbd.setCell (p:=⟨w.heap.size,2,none⟩) (Nat.le_refl _) _).drew
       have y1:IntKind.i64.wrap (6:Int)=6:=IntWalk.i64_in _ (by omega)
       have x1:we.cell? ⟨w.heap.size,6,none⟩=some (.int .u32 (s.g:Int)):=RowV.cell B rfl
       have x2:we.frozen? ⟨w.heap.size,6,none⟩=false:=RowV.free B 6
       have x3:we.cell? ⟨ge,2,none⟩=some (.int .u32 (u.g:Int)):=RowV.cell E rfl
       have a1:=wrap_add s.g u.g
       have HWE:=Lib.hid hwe;have HVe:=Lib.hid V;have HEe:=Lib.hid E;have HBe:=Lib.hid B;have HZe:=Lib.hid Z
       clear hwe V E B Z HBd HVd HEd HZd
       refine wp_region_still_tail 8 (by kernel_rfl) (by kernel_rfl) ?_
       simp only[List.take_succ_cons,List.take_zero,List.drop_succ_cons,List.drop_zero]
       change wpStill _ _ (wd.setCell ⟨w.heap.size,2,none⟩ (.int .u32 (Sha.add32 s.c u.c:Nat))).drew _ _ _
       rw[←HWE.out]
       repeat still_step
       refine wpStill_nil ?_
       change wpList _ _ _ _ _ (wd.setCell ⟨w.heap.size,2,none⟩ (.int .u32 (Sha.add32 s.c u.c:Nat))).drew
       rw[←HWE.out]
       go_wp2_with fail
       have hB2:Row32 (we.setCell ⟨w.heap.size,6,none⟩ (.int .u32 (Sha.add32 s.g u.g:Nat))) w.heap.size 148 [Sha.add32 s.a u.a,Sha.add32 s.b u.b,Sha.add32 s.c u.c,s.d,Sha.add32 s.e u.e,Sha.add32 s.f u.f,Sha.add32 s.g u.g,s.h]:=HBe.out.set_ 6 _
       exact⟨⟨3,by omega,by go_num,Lib.hid (HVe.out.far _ _ (by simp;omega)),Lib.hid (HEe.out.far _ _ (by simp;omega)),Lib.hid hB2,Lib.hid (HZe.out.far _ _ (by simp)),hbe.setCell (p:=⟨w.heap.size,6,none⟩) (Nat.le_refl _) _⟩,by simp[intOf]⟩
      ·have HB0:Row32 wr w.heap.size 148 [Sha.add32 s.a u.a,Sha.add32 s.b u.b,Sha.add32 s.c u.c,s.d,Sha.add32 s.e u.e,Sha.add32 s.f u.f,Sha.add32 s.g u.g,s.h]:=HBj.out
       obtain⟨wd,hwd⟩:∃ x:World,x=wr.drew:=⟨_,rfl⟩
       have V:W4 wd gv u.a u.b u.c u.d:=by rw[hwd];exact HVj.out
       have E:W4 wd ge u.e u.f u.g u.h:=by rw[hwd];exact HEj.out
       have B:Row32 wd w.heap.size 148 [Sha.add32 s.a u.a,Sha.add32 s.b u.b,Sha.add32 s.c u.c,s.d,Sha.add32 s.e u.e,Sha.add32 s.f u.f,Sha.add32 s.g u.g,s.h]:=by rw[hwd];exact HB0
       have Z:Row32 wd (w.heap.size+1) 148 (List.replicate 8 0):=by rw[hwd];exact HZj.out
       have hbd:Below w.heap.size w wd:=by rw[hwd];exact hbj.drew
       have x1:wd.cell? ⟨w.heap.size,3,none⟩=some (.int .u32 (s.d:Int)):=RowV.cell B rfl
       have x2:wd.frozen? ⟨w.heap.size,3,none⟩=false:=RowV.free B 3
       have x3:wd.cell? ⟨gv,3,none⟩=some (.int .u32 (u.d:Int)):=RowV.cell V rfl
       have a1:=wrap_add s.d u.d
       have HWD:=Lib.hid hwd;have HVd:=Lib.hid V;have HEd:=Lib.hid E;have HBd:=Lib.hid B;have HZd:=Lib.hid Z
       clear hwd V E B Z HB0
       go_wp2_with fail
       refine wp_region_still_tail 7 (by kernel_rfl) (by kernel_rfl) ?_
       simp only[List.take_succ_cons,List.take_zero,List.drop_succ_cons,List.drop_zero]
       change wpStill _ _ wr.drew _ _ _
       rw[←HWD.out]
       repeat still_step
       refine wpStill_nil ?_
       change wpList _ _ _ _ _ wr.drew
       rw[←HWD.out]
       go_wp2_with fail
       clear x1 x2 x3 a1 HWD
       obtain⟨we,hwe⟩:∃ x:World,x=(wd.setCell ⟨w.heap.size,3,none⟩ (.int .u32 (Sha.add32 s.d u.d:Nat))).drew:=⟨_,rfl⟩
       have V:W4 we gv u.a u.b u.c u.d:=by rw[hwe];exact HVd.out.far _ _ (by simp;omega)
       have E:W4 we ge u.e u.f u.g u.h:=by rw[hwe];exact HEd.out.far _ _ (by simp;omega)
       have B:Row32 we w.heap.size 148 [Sha.add32 s.a u.a,Sha.add32 s.b u.b,Sha.add32 s.c u.c,Sha.add32 s.d u.d,Sha.add32 s.e u.e,Sha.add32 s.f u.f,Sha.add32 s.g u.g,s.h]:=by rw[hwe];exact HBd.out.set_ 3 _
       have Z:Row32 we (w.heap.size+1) 148 (List.replicate 8 0):=by rw[hwe];exact HZd.out.far _ _ (by simp)
       have hbe:Below w.heap.size w we:=by rw[hwe];exact (hbd.setCell (p:=⟨w.heap.size,3,none⟩) (Nat.le_refl _) _).drew
       have y1:IntKind.i64.wrap (7:Int)=7:=IntWalk.i64_in _ (by omega)
       have x1:we.cell? ⟨w.heap.size,7,none⟩=some (.int .u32 (s.h:Int)):=RowV.cell B rfl
       have x2:we.frozen? ⟨w.heap.size,7,none⟩=false:=RowV.free B 7
       have x3:we.cell? ⟨ge,3,none⟩=some (.int .u32 (u.h:Int)):=RowV.cell E rfl
       have a1:=wrap_add s.h u.h
       have HWE:=Lib.hid hwe;have HVe:=Lib.hid V;have HEe:=Lib.hid E;have HBe:=Lib.hid B;have HZe:=Lib.hid Z
       clear hwe V E B Z HBd HVd HEd HZd
       refine wp_region_still_tail 8 (by kernel_rfl) (by kernel_rfl) ?_
       simp only[List.take_succ_cons,List.take_zero,List.drop_succ_cons,List.drop_zero]
       change wpStill _ _ (wd.setCell ⟨w.heap.size,3,none⟩ (.int .u32 (Sha.add32 s.d u.d:Nat))).drew _ _ _
       rw[←HWE.out]
       repeat still_step
       refine wpStill_nil ?_
       change wpList _ _ _ _ _ (wd.setCell ⟨w.heap.size,3,none⟩ (.int .u32 (Sha.add32 s.d u.d:Nat))).drew
       rw[←HWE.out]
       go_wp2_with fail
       have hB2:Row32 (we.setCell ⟨w.heap.size,7,none⟩ (.int .u32 (Sha.add32 s.h u.h:Nat))) w.heap.size 148 [Sha.add32 s.a u.a,Sha.add32 s.b u.b,Sha.add32 s.c u.c,Sha.add32 s.d u.d,Sha.add32 s.e u.e,Sha.add32 s.f u.f,Sha.add32 s.g u.g,Sha.add32 s.h u.h]:=HBe.out.set_ 7 _
       exact⟨⟨4,by omega,by go_num,Lib.hid (HVe.out.far _ _ (by simp;omega)),Lib.hid (HEe.out.far _ _ (by simp;omega)),Lib.hid hB2,Lib.hid (HZe.out.far _ _ (by simp)),hbe.setCell (p:=⟨w.heap.size,7,none⟩) (Nat.le_refl _) _⟩,by simp[intOf]⟩
     ·have he:j=4:=by omega
      have hB4:wr.heap[w.heap.size]? = some (.cells (w32 (outLH s u 4)).toArray 148 (0,0)):=by have:=HBj.out;rw[he]at this;exact this
      have HB4:=Lib.hid hB4
      clear hB4 he HBj
      have hl:(w32 (outLH s u 4)).toArray.size=8:=rfl
      have hi8:(Tryz.prog.info? 148).map (·.size)=some (w32 (outLH s u 4)).toArray.size:=by rw[hl];kernel_rfl
      have h1:(w32 (outLH s u 4)).toArray.all (·.oneCell')=true:=by rw[List.all_toArray,List.all_eq_true];exact w32_one _
      have hz8:(w32 (List.replicate 8 0)).toArray.size=(w32 (outLH s u 4)).toArray.size:=rfl
      have hv:Value.agg (w32 (outLH s u 4)).toArray=.agg #[.int .u32 R.a,.int .u32 R.b,.int .u32 R.c,.int .u32 R.d,.int .u32 R.e,.int .u32 R.f,.int .u32 R.g,.int .u32 R.h]:=by rw[HR.out];rfl
      have HI8:=Lib.hid hi8;have H18:=Lib.hid h1;have HZ8:=Lib.hid hz8;have HV8:=Lib.hid hv
      clear hi8 h1 hz8 hv hl
      generalize (w32 (outLH s u 4)).toArray=X8 at *
      go_wp2_with (first | (refine wpList_load_row rfl _ _ rfl w.heap.size rfl _ X8 (0,0) _ HB4.out Tryz.underlying148 rfl HI8.out ?_) | (refine wpList_store_row rfl _ _ _ rfl (w.heap.size+1) X8 rfl rfl _ _ HZj.out HI8.out HZ8.out H18.out ?_))
      rw[←HV8.out]
      refine bodyPost_ret (v:=.agg X8) ?_ rfl ⟨rfl,?_⟩
      ·exact results_cell_row rfl _ _ (w.heap.size+1) _ _ (0,0) _ rfl (setRow_heap _ _ _ _ _ _ HZj.out) Tryz.underlying148 rfl HI8.out
      ·exact below_setRow hbj (by omega) _
end Go.Proofs.YtlkbkclnbppigaaGreatDoor
