/- The hash of a message: the walk of Stream.Sum. -/
import Derived.Test.YtlkbkclnbppigaaGreatDoorIZ16
set_option maxHeartbeats 4000000
namespace Go.Proofs.YtlkbkclnbppigaaGreatDoor
open Go.RowKit Go.Sort
set_option linter.unusedVariables false
set_option linter.unusedSimpArgs false
set_option maxRecDepth 100000
def preN (n:Nat) (S:List Nat) (t:Nat):List Nat:=S.take t++List.replicate (n-t) 0
section
variable {n:Nat} {S:List Nat}
theorem preN_succ (hS:S.length=n) {t:Nat} (ht:t<n):(preN n S t).set t (S.getD t 0)=preN n S (t+1):=by
 unfold preN
 have hl:(S.take t).length=t:=by rw[List.length_take];omega
 rw[List.set_append_right _ _ (by omega),hl,Nat.sub_self,show n-t=(n-(t+1))+1 by omega,List.replicate_succ,List.set_cons_zero,List.take_add_one,List.getElem?_eq_getElem (by omega)]
 rw[List.getD_eq_getElem?_getD,List.getElem?_eq_getElem (by omega)]
 rw[List.append_assoc];rfl
theorem preN_len (hS:S.length=n) {t:Nat} (ht:t≤n):(preN n S t).length=n:=by unfold preN;simp[hS];omega
theorem preN_all (hS:S.length=n):preN n S n=S:=by unfold preN;rw[List.take_of_length_le (by omega)];simp
end
theorem b8_set (L:List Nat) (k v:Nat):b8 (L.set k v)=(b8 L).set k (.int .u8 (v:Int)):=by simp[b8,List.map_set]
theorem out_at (s:Sha.St) {q r:Nat} (hq:q<8) (hr:r<4):(Sha.out s).getD (4*q+r) 0=(Sha.bytes4 ((stL s).getD q 0)).getD r 0:=by
 have h1:q=0∨q=1∨q=2∨q=3∨q=4∨q=5∨q=6∨q=7:=by omega
 have h2:r=0∨r=1∨r=2∨r=3:=by omega
 rcases h1 with rfl | rfl | rfl | rfl | rfl | rfl | rfl | rfl <;> rcases h2 with rfl | rfl | rfl | rfl <;> rfl
theorem stL_lt {s:Sha.St} (h:Sha.Ok s) (q:Nat):(stL s).getD q 0<4294967296:=by
 obtain⟨h0,h1,h2,h3,h4,h5,h6,h7⟩:=h
 unfold stL
 match q with
 | 0=>exact h0
 | 1=>exact h1
 | 2=>exact h2
 | 3=>exact h3
 | 4=>exact h4
 | 5=>exact h5
 | 6=>exact h6
 | 7=>exact h7
 | _+8=>exact (by decide:0<4294967296)
theorem bytes8_len (x:Nat):(Sha.bytes8 x).length=8:=rfl
theorem own_one (w:World) (base x:Nat) (hb:base≤w.heap.size):(w.alloc (.cells #[.int .u8 (x:Int)] 5)).ownsRow base 5 1 (.slice (some ⟨w.heap.size,0,none⟩) 1 1) 1 (b8 [x]) :=
 ⟨rfl,.inr ⟨w.heap.size,1,#[.int .u8 (x:Int)],rfl,hb,heap_alloc_new w _,Nat.le_refl _,by decide,rfl,rfl⟩⟩
theorem own_next {w:World} {base n j k:Nat} {v:Value} {P S:List Nat} {x:Int} (h:w.ownsRow base 5 1 v k (b8 (P++S.take j)++[.int .u8 x])) (hk:k=n+(j+1)) (hx:x=((S.getD j 0:Nat):Int)) (hj:j<S.length) :
  w.ownsRow base 5 1 v (n+(j+1)) (b8 (P++S.take (j+1))):=by
 rw[hk,hx]at h
 have e:b8 (P++S.take (j+1))=b8 (P++S.take j)++[.int .u8 ((S.getD j 0:Nat):Int)]:=by
  rw[List.take_add_one,List.getElem?_eq_getElem hj,List.getD_eq_getElem?_getD,List.getElem?_eq_getElem hj,←List.append_assoc,b8_app];rfl
 rw[e];exact h
theorem bytes8_lt {x:Nat} (hx:x<18446744073709551616):∀ b∈Sha.bytes8 x,b<256:=by
 intro b hb
 unfold Sha.bytes8 at hb
 rcases List.mem_append.1 hb with hb | hb
 ·exact Sha.bytes4_lt (Nat.mod_lt _ (by decide)) b hb
 ·exact Sha.bytes4_lt (Nat.mod_lt _ (by decide)) b hb
theorem padT_lt {n:Nat} (hn:n≤100000000000):∀ b∈Sha.padT n,b<256:=by
 intro b hb
 unfold Sha.padT at hb
 rcases List.mem_cons.1 hb with hb | hb
 ·omega
 ·rcases List.mem_append.1 hb with hb | hb
  ·have:=(List.mem_replicate.1 hb).2;omega
  ·exact bytes8_lt (by omega) b hb
theorem grown_row {w w':World} {base n g:Nat} {v:Value} {e t:TypeId} {xs cs:List Value} (hown:w.ownsRow base e 1 v n xs) (hg:w.grownBy w' v.ownBlock) (hlt:g<base) (h:RowV w g t cs):RowV w' g t cs :=
 (hg.block g (RowV.lt h) (fun e=>by have:=ownsRow_block hown g e.symm;omega)).trans h
theorem sum_any (m:List Nat) (v:Value) (w:World) (hv:StrV m v) (hm:m.length≤100000000000) (hK:Ks w) :
  Calls Tryz.prog 120 #[v] w (Ret w (.agg (b8 (Sha.sum m)).toArray)):=by
 obtain⟨i0,hi,hz0,hz1,hz2⟩:=info_parts infoByte22
 have HI:=Lib.hid (And.intro hi (And.intro hz0 (And.intro hz1 hz2)))
 clear hi hz0 hz1 hz2
 obtain⟨st,blk,rfl,hst,hbk⟩:=hv
 obtain⟨N,hN⟩:∃ N,N=m.length:=⟨_,rfl⟩
 have hN2:N≤100000000000:=by omega
 have hSV:StrV m (.agg (strLH st blk N).toArray):=⟨st,blk,by rw[hN],hst,hbk⟩
 obtain⟨R,hR⟩:∃ R,R=Sha.sum m:=⟨_,rfl⟩
 rw[←hN,←hR]
 obtain⟨X,hX⟩:∃ X,X=(strLH st blk N).toArray:=⟨_,rfl⟩
 rw[←hX]at hSV ⊢
 obtain⟨p,hp⟩:∃ p,p=(119-N % 64) % 64:=⟨_,rfl⟩
 have hp2:p≤63:=by omega
 have hp3:∀ i,i≤p→((N+1+i) % 64=56↔i=p):=by intro i hi;omega
 have hblk:=hst.len
 have HK:=Lib.hid hK;have HSV:=Lib.hid hSV;have HR:=Lib.hid hR;have HX:=Lib.hid hX;have HP:=Lib.hid hp;have HP3:=Lib.hid hp3;have HN:=Lib.hid hN;have HBL:=Lib.hid hblk
 clear hK hSV hR hX hp hp3 hst hbk hN hblk hm
 go_enter Tryz.func120,Tryz.ntmps120
 go_upto_region 1 with fail
 generalize hw0:World.alloc _ _=w0
 have hB:RowV w0 w.heap.size 152 (strLH st blk N):=by rw[←hw0,←show X.toList=strLH st blk N by rw[HX.out]];exact (heap_alloc2_old w _ _).trans (by simp)
 have hZ:RowV w0 (w.heap.size+1) 156 (b8 (preN 32 R 0)):=by rw[←hw0];exact (heap_alloc2_new w _ _).trans rfl
 have hbw:Below w.heap.size w w0:=by rw[←hw0];exact belB
 clear hw0
 have hz0:w.heap.size+1<w0.heap.size:=RowV.lt hZ
 have c72:w0.cell? ⟨w.heap.size,72,none⟩=some (.int .u64 (N:Int)):=RowV.cell hB (strL_n HBL.out)
 have HB:=Lib.hid hB;have HZ:=Lib.hid hZ
 clear hB hZ
 go_wp2
 clear c72
 go_loopw [4] (fun pv wr=>∃ (i:Nat) (A:Option Addr) (c:Nat),i≤p∧pv=.slice A (1+i) c∧wr.ownsRow (w.heap.size+2) 5 1 (.slice A (1+i) c) (1+i) (b8 (128 :: List.replicate i 0))∧Hid (RowV wr w.heap.size 152 (strLH st blk N))∧Hid (RowV wr (w.heap.size+1) 156 (b8 (preN 32 R 0)))∧Below w.heap.size w wr) (fun pv _=>match pv with | .slice _ n _=>65-n | _=>0)
 case atStart =>
  refine⟨0,some ⟨w0.heap.size,0,none⟩,1,by omega,rfl,own_one _ _ 128 (by omega),Lib.hid (RowV.alloc HB.out _),Lib.hid (RowV.alloc HZ.out _),(hbw.alloc (by omega) _)⟩
 case round =>
  obtain⟨i,A,c,hi,rfl,hown,HBr,HZr,hbr⟩:=hrel
  clear HB HZ hbw
  have hbs:w.heap.size+1<wr.heap.size:=RowV.lt HZr.out
  have c72:wr.cell? ⟨w.heap.size,72,none⟩=some (.int .u64 (N:Int)):=RowV.cell HBr.out (strL_n HBL.out)
  have h56:=HP3.out i hi
  by_cases h:i=p
  ·have hc:((N:Int)+(1+p)) % 64=56:=by omega
   have hpad:128 :: List.replicate i 0=(128 :: List.replicate p 0)++(Sha.bytes8 (8*N)).take 0:=by rw[h];simp
   have hn1:1+i=1+p+0:=by omega
   rw[hpad,hn1]at hown
   rw[hn1]
   clear hpad hn1 h56 h hi
   go_wp2_with fail
   obtain⟨wo,rfl⟩:∃ wo:World,wo=wr:=⟨_,rfl⟩
   go_loopw [23,4] (fun jv pv wr=>∃ (j:Nat) (A:Option Addr) (c:Nat),j≤8∧jv=.int .i64 j∧pv=.slice A (1+p+j) c∧wr.ownsRow (w.heap.size+2) 5 1 (.slice A (1+p+j) c) (1+p+j) (b8 ((128 :: List.replicate p 0)++(Sha.bytes8 (8*N)).take j))∧Hid (RowV wr w.heap.size 152 (strLH st blk N))∧Hid (RowV wr (w.heap.size+1) 156 (b8 (preN 32 R 0)))∧Below w.heap.size w wr) (fun jv _ _=>8-(intOf jv).toNat)
   case atStart=>exact⟨0,A,c,by omega,rfl,rfl,hown,HBr,HZr,hbr⟩
   case round =>
    clear HBr HZr hbr hown c72 hc
    obtain⟨j,A,c,hj,rfl,rfl,hown,HBr,HZr,hbr⟩:=hrel
    have hbs:w.heap.size+1<wr.heap.size:=RowV.lt HZr.out
    by_cases h8:j<8
    ·have hj8:j=0∨j=1∨j=2∨j=3∨j=4∨j=5∨j=6∨j=7:=by omega
     clear h8 hj
     rcases hj8 with rfl | rfl | rfl | rfl | rfl | rfl | rfl | rfl
     ·go_wp2_with (at_builtin;refine wpList_append_own _ rfl _ _ 105 rfl (w.heap.size+2) 5 i0 (.int .u8 0) 1 1 Tryz.underlying105 HI.out.1 HI.out.2.1 HI.out.2.2.1 HI.out.2.2.2 rfl (by decide) _ _ _ rfl (hown.alloc _) ⟨wr.heap.size,0,none⟩ 1 1 [_] rfl rfl (cell_one_new _ _ _) (by simp[Value.oneCell']) (by unfold maxLen;omega) (by omega) (by simp;omega) ?_;intro v' w3 hown1 hgrow1 _;obtain⟨g1,cap1,rfl⟩:=ownsRow_succ hown1;have hb3:Below w.heap.size w w3:=(hbr.alloc (by omega) _).grown hgrow1 (by simp;omega) (fun r e=>by have:=ownsRow_block hown r e;omega);have HB3:=Lib.hid (grown_row (hown.alloc _) hgrow1 (by omega) (RowV.alloc HBr.out _));have HZ3:=Lib.hid (grown_row (hown.alloc _) hgrow1 (by omega) (RowV.alloc HZr.out _));have hbs3:w.heap.size+1<w3.heap.size:=RowV.lt HZ3.out;clear hown)
      have hown2:=own_next (n:=1+p) hown1 (by omega) (by simp[Sha.bytes8,Sha.bytes4] <;> omega) (by rw[bytes8_len];omega)
      refine⟨?_,by simp[intOf]⟩
      repeat apply Exists.intro
      exact⟨⟨1,some ⟨g1,0,none⟩,cap1,by omega,rfl,rfl,hown2,HB3,HZ3,hb3⟩,rfl⟩
     ·go_wp2_with (at_builtin;refine wpList_append_own _ rfl _ _ 105 rfl (w.heap.size+2) 5 i0 (.int .u8 0) 1 1 Tryz.underlying105 HI.out.1 HI.out.2.1 HI.out.2.2.1 HI.out.2.2.2 rfl (by decide) _ _ _ rfl (hown.alloc _) ⟨wr.heap.size,0,none⟩ 1 1 [_] rfl rfl (cell_one_new _ _ _) (by simp[Value.oneCell']) (by unfold maxLen;omega) (by omega) (by simp;omega) ?_;intro v' w3 hown1 hgrow1 _;obtain⟨g1,cap1,rfl⟩:=ownsRow_succ hown1;have hb3:Below w.heap.size w w3:=(hbr.alloc (by omega) _).grown hgrow1 (by simp;omega) (fun r e=>by have:=ownsRow_block hown r e;omega);have HB3:=Lib.hid (grown_row (hown.alloc _) hgrow1 (by omega) (RowV.alloc HBr.out _));have HZ3:=Lib.hid (grown_row (hown.alloc _) hgrow1 (by omega) (RowV.alloc HZr.out _));have hbs3:w.heap.size+1<w3.heap.size:=RowV.lt HZ3.out;clear hown)
      have hown2:=own_next (n:=1+p) hown1 (by omega) (by simp[Sha.bytes8,Sha.bytes4] <;> omega) (by rw[bytes8_len];omega)
      refine⟨?_,by simp[intOf]⟩
      repeat apply Exists.intro
      exact⟨⟨2,some ⟨g1,0,none⟩,cap1,by omega,rfl,rfl,hown2,HB3,HZ3,hb3⟩,rfl⟩
     ·go_wp2_with (at_builtin;refine wpList_append_own _ rfl _ _ 105 rfl (w.heap.size+2) 5 i0 (.int .u8 0) 1 1 Tryz.underlying105 HI.out.1 HI.out.2.1 HI.out.2.2.1 HI.out.2.2.2 rfl (by decide) _ _ _ rfl (hown.alloc _) ⟨wr.heap.size,0,none⟩ 1 1 [_] rfl rfl (cell_one_new _ _ _) (by simp[Value.oneCell']) (by unfold maxLen;omega) (by omega) (by simp;omega) ?_;intro v' w3 hown1 hgrow1 _;obtain⟨g1,cap1,rfl⟩:=ownsRow_succ hown1;have hb3:Below w.heap.size w w3:=(hbr.alloc (by omega) _).grown hgrow1 (by simp;omega) (fun r e=>by have:=ownsRow_block hown r e;omega);have HB3:=Lib.hid (grown_row (hown.alloc _) hgrow1 (by omega) (RowV.alloc HBr.out _));have HZ3:=Lib.hid (grown_row (hown.alloc _) hgrow1 (by omega) (RowV.alloc HZr.out _));have hbs3:w.heap.size+1<w3.heap.size:=RowV.lt HZ3.out;clear hown)
      have hown2:=own_next (n:=1+p) hown1 (by omega) (by simp[Sha.bytes8,Sha.bytes4] <;> omega) (by rw[bytes8_len];omega)
      refine⟨?_,by simp[intOf]⟩
      repeat apply Exists.intro
      exact⟨⟨3,some ⟨g1,0,none⟩,cap1,by omega,rfl,rfl,hown2,HB3,HZ3,hb3⟩,rfl⟩
     ·go_wp2_with (at_builtin;refine wpList_append_own _ rfl _ _ 105 rfl (w.heap.size+2) 5 i0 (.int .u8 0) 1 1 Tryz.underlying105 HI.out.1 HI.out.2.1 HI.out.2.2.1 HI.out.2.2.2 rfl (by decide) _ _ _ rfl (hown.alloc _) ⟨wr.heap.size,0,none⟩ 1 1 [_] rfl rfl (cell_one_new _ _ _) (by simp[Value.oneCell']) (by unfold maxLen;omega) (by omega) (by simp;omega) ?_;intro v' w3 hown1 hgrow1 _;obtain⟨g1,cap1,rfl⟩:=ownsRow_succ hown1;have hb3:Below w.heap.size w w3:=(hbr.alloc (by omega) _).grown hgrow1 (by simp;omega) (fun r e=>by have:=ownsRow_block hown r e;omega);have HB3:=Lib.hid (grown_row (hown.alloc _) hgrow1 (by omega) (RowV.alloc HBr.out _));have HZ3:=Lib.hid (grown_row (hown.alloc _) hgrow1 (by omega) (RowV.alloc HZr.out _));have hbs3:w.heap.size+1<w3.heap.size:=RowV.lt HZ3.out;clear hown)
      have hown2:=own_next (n:=1+p) hown1 (by omega) (by simp[Sha.bytes8,Sha.bytes4] <;> omega) (by rw[bytes8_len];omega)
      refine⟨?_,by simp[intOf]⟩
      repeat apply Exists.intro
      exact⟨⟨4,some ⟨g1,0,none⟩,cap1,by omega,rfl,rfl,hown2,HB3,HZ3,hb3⟩,rfl⟩
     ·go_wp2_with (at_builtin;refine wpList_append_own _ rfl _ _ 105 rfl (w.heap.size+2) 5 i0 (.int .u8 0) 1 1 Tryz.underlying105 HI.out.1 HI.out.2.1 HI.out.2.2.1 HI.out.2.2.2 rfl (by decide) _ _ _ rfl (hown.alloc _) ⟨wr.heap.size,0,none⟩ 1 1 [_] rfl rfl (cell_one_new _ _ _) (by simp[Value.oneCell']) (by unfold maxLen;omega) (by omega) (by simp;omega) ?_;intro v' w3 hown1 hgrow1 _;obtain⟨g1,cap1,rfl⟩:=ownsRow_succ hown1;have hb3:Below w.heap.size w w3:=(hbr.alloc (by omega) _).grown hgrow1 (by simp;omega) (fun r e=>by have:=ownsRow_block hown r e;omega);have HB3:=Lib.hid (grown_row (hown.alloc _) hgrow1 (by omega) (RowV.alloc HBr.out _));have HZ3:=Lib.hid (grown_row (hown.alloc _) hgrow1 (by omega) (RowV.alloc HZr.out _));have hbs3:w.heap.size+1<w3.heap.size:=RowV.lt HZ3.out;clear hown)
      have hown2:=own_next (n:=1+p) hown1 (by omega) (by simp[Sha.bytes8,Sha.bytes4] <;> omega) (by rw[bytes8_len];omega)
      refine⟨?_,by simp[intOf]⟩
      repeat apply Exists.intro
      exact⟨⟨5,some ⟨g1,0,none⟩,cap1,by omega,rfl,rfl,hown2,HB3,HZ3,hb3⟩,rfl⟩
     ·go_wp2_with (at_builtin;refine wpList_append_own _ rfl _ _ 105 rfl (w.heap.size+2) 5 i0 (.int .u8 0) 1 1 Tryz.underlying105 HI.out.1 HI.out.2.1 HI.out.2.2.1 HI.out.2.2.2 rfl (by decide) _ _ _ rfl (hown.alloc _) ⟨wr.heap.size,0,none⟩ 1 1 [_] rfl rfl (cell_one_new _ _ _) (by simp[Value.oneCell']) (by unfold maxLen;omega) (by omega) (by simp;omega) ?_;intro v' w3 hown1 hgrow1 _;obtain⟨g1,cap1,rfl⟩:=ownsRow_succ hown1;have hb3:Below w.heap.size w w3:=(hbr.alloc (by omega) _).grown hgrow1 (by simp;omega) (fun r e=>by have:=ownsRow_block hown r e;omega);have HB3:=Lib.hid (grown_row (hown.alloc _) hgrow1 (by omega) (RowV.alloc HBr.out _));have HZ3:=Lib.hid (grown_row (hown.alloc _) hgrow1 (by omega) (RowV.alloc HZr.out _));have hbs3:w.heap.size+1<w3.heap.size:=RowV.lt HZ3.out;clear hown)
      have hown2:=own_next (n:=1+p) hown1 (by omega) (by simp[Sha.bytes8,Sha.bytes4] <;> omega) (by rw[bytes8_len];omega)
      refine⟨?_,by simp[intOf]⟩
      repeat apply Exists.intro
      exact⟨⟨6,some ⟨g1,0,none⟩,cap1,by omega,rfl,rfl,hown2,HB3,HZ3,hb3⟩,rfl⟩
     ·go_wp2_with (at_builtin;refine wpList_append_own _ rfl _ _ 105 rfl (w.heap.size+2) 5 i0 (.int .u8 0) 1 1 Tryz.underlying105 HI.out.1 HI.out.2.1 HI.out.2.2.1 HI.out.2.2.2 rfl (by decide) _ _ _ rfl (hown.alloc _) ⟨wr.heap.size,0,none⟩ 1 1 [_] rfl rfl (cell_one_new _ _ _) (by simp[Value.oneCell']) (by unfold maxLen;omega) (by omega) (by simp;omega) ?_;intro v' w3 hown1 hgrow1 _;obtain⟨g1,cap1,rfl⟩:=ownsRow_succ hown1;have hb3:Below w.heap.size w w3:=(hbr.alloc (by omega) _).grown hgrow1 (by simp;omega) (fun r e=>by have:=ownsRow_block hown r e;omega);have HB3:=Lib.hid (grown_row (hown.alloc _) hgrow1 (by omega) (RowV.alloc HBr.out _));have HZ3:=Lib.hid (grown_row (hown.alloc _) hgrow1 (by omega) (RowV.alloc HZr.out _));have hbs3:w.heap.size+1<w3.heap.size:=RowV.lt HZ3.out;clear hown)
      have hown2:=own_next (n:=1+p) hown1 (by omega) (by simp[Sha.bytes8,Sha.bytes4] <;> omega) (by rw[bytes8_len];omega)
      refine⟨?_,by simp[intOf]⟩
      repeat apply Exists.intro
      exact⟨⟨7,some ⟨g1,0,none⟩,cap1,by omega,rfl,rfl,hown2,HB3,HZ3,hb3⟩,rfl⟩
     ·go_wp2_with (at_builtin;refine wpList_append_own _ rfl _ _ 105 rfl (w.heap.size+2) 5 i0 (.int .u8 0) 1 1 Tryz.underlying105 HI.out.1 HI.out.2.1 HI.out.2.2.1 HI.out.2.2.2 rfl (by decide) _ _ _ rfl (hown.alloc _) ⟨wr.heap.size,0,none⟩ 1 1 [_] rfl rfl (cell_one_new _ _ _) (by simp[Value.oneCell']) (by unfold maxLen;omega) (by omega) (by simp;omega) ?_;intro v' w3 hown1 hgrow1 _;obtain⟨g1,cap1,rfl⟩:=ownsRow_succ hown1;have hb3:Below w.heap.size w w3:=(hbr.alloc (by omega) _).grown hgrow1 (by simp;omega) (fun r e=>by have:=ownsRow_block hown r e;omega);have HB3:=Lib.hid (grown_row (hown.alloc _) hgrow1 (by omega) (RowV.alloc HBr.out _));have HZ3:=Lib.hid (grown_row (hown.alloc _) hgrow1 (by omega) (RowV.alloc HZr.out _));have hbs3:w.heap.size+1<w3.heap.size:=RowV.lt HZ3.out;clear hown)
      have hown2:=own_next (n:=1+p) hown1 (by omega) (by simp[Sha.bytes8,Sha.bytes4] <;> omega) (by rw[bytes8_len];omega)
      refine⟨?_,by simp[intOf]⟩
      repeat apply Exists.intro
      exact⟨⟨8,some ⟨g1,0,none⟩,cap1,by omega,rfl,rfl,hown2,HB3,HZ3,hb3⟩,rfl⟩
    ·have hj8:j=8:=by omega
     have hpt:(128 :: List.replicate p 0)++(Sha.bytes8 (8*N)).take j=Sha.padT N:=by rw[hj8,HP.out];rfl
     rw[hpt]at hown
     have hpl:(Sha.padT N).length=1+p+j:=by rw[Sha.padT_len,HP.out,hj8];omega
     have hcv:=run_text wr A (1+p+j) c (Sha.padT N) hpl (padT_lt hN2) (by omega) (reads_own hown)
     have hpz:(toN (Sha.padT N)).size≤200:=by rw[toN_size,hpl];omega
     have hadd:=add_any m (.agg X) (toN (Sha.padT N)) wr HSV.out (by have:=HN.out;omega) (HK.out.keep hbr)
     rw[nb_toN (padT_lt hN2),show m++Sha.padT N=Sha.pad m by rw[Sha.pad_eq,HN.out]]at hadd
     have hBX:wr.heap[w.heap.size]? = some (.cells X 152 (0,0)):=by rw[HX.out];exact HBr.out
     have hiX:(Tryz.prog.info? 152).map (·.size)=some X.size:=by rw[HX.out,List.size_toArray,strLH_len HBL.out];kernel_rfl
     have HADD:=Lib.hid hadd;have HBX:=Lib.hid hBX;have HIX:=Lib.hid hiX
     generalize toN (Sha.padT N)=T at *
     clear hadd hBX hiX hpt hpl hown hj8 HSV
     go_upto_region 11 with (first | (refine wpList_load_row rfl _ _ rfl w.heap.size rfl _ X (0,0) _ HBX.out Tryz.underlying152 rfl HIX.out ?_) | (go_at_call 118;refine HADD.out.mono ?_;rintro e w5 ⟨⟨v5,rfl,hv5⟩,hb5⟩;obtain⟨st5,blk5,rfl,hst5,hbk5⟩:=hv5;have hi5:(Tryz.prog.info? 152).map (·.size)=some (strLH st5 blk5 (Sha.pad m).length).toArray.size:=(by rw[List.size_toArray,strLH_len hst5.len];kernel_rfl)) | (refine wpList_store_row rfl _ _ _ rfl w.heap.size (strLH st5 blk5 (Sha.pad m).length).toArray rfl rfl _ _ (RowV.keep HBr.out hb5) hi5 (by rw[List.size_toArray,List.size_toArray,strLH_len hst5.len,strLH_len HBL.out]) (by rw[List.all_toArray,List.all_eq_true];exact strL_one) ?_))
     try simp only[Act.put,List.setIfInBounds_toArray,List.set_cons_succ,List.set_cons_zero]
     have hs5:=hb5.size
     obtain⟨w6,hw6⟩:∃ y:World,y=w5.setRow w.heap.size (strLH st5 blk5 (Sha.pad m).length).toArray:=⟨_,rfl⟩
     rw[←hw6]
     have hB6:RowV w6 w.heap.size 152 (strLH st5 blk5 (Sha.pad m).length):=by rw[hw6];exact RowV.row (RowV.keep HBr.out hb5) _
     have hZ6:RowV w6 (w.heap.size+1) 156 (b8 (preN 32 R 0)):=by rw[hw6];exact RowV.row_far (RowV.keep HZr.out hb5) _ _ (by omega)
     have hbw6:Below w.heap.size w w6:=by rw[hw6];exact below_setRow (hbr.trans (hb5.mono (by omega))) (Nat.le_refl _) _
     have hRo:R=Sha.out st5:=by rw[HR.out];exact hst5.sum.symm
     have hok5:=hst5.ok
     have hRl:R.length=32:=by rw[hRo];rfl
     have hout:∀ i,i<32→R.getD i 0=(Sha.bytes4 ((stL st5).getD (i / 4) 0)).getD (i % 4) 0:=fun i hi=>by
      have:=out_at st5 (q:=i / 4) (r:=i % 4) (by omega) (by omega)
      rw[show 4*(i / 4)+i % 4=i by omega]at this
      rw[hRo];exact this
     have hlt:=stL_lt hok5
     have HB6:=Lib.hid hB6;have HZ6:=Lib.hid hZ6;have HOUT:=Lib.hid hout;have HRL:=Lib.hid hRl;have HLT:=Lib.hid hlt;have HBL5:=Lib.hid hst5.len
     clear hw6 hB6 hZ6 hRo hok5 hRl hout hlt hst5 hbk5 hi5 hb5 hs5 HBr HZr hbr HBX HIX HADD hcv HK HR HX
     generalize (Sha.pad m).length=L5 at *
     obtain⟨go,hgo⟩:∃ go,go=w6.heap.size:=⟨_,rfl⟩
     have hgo2:w.heap.size+1<go:=by rw[hgo];exact RowV.lt HZ6.out
     go_wp2_with fail
     rw[←hgo]
     have HGO:=Lib.hid hgo
     clear hgo
     go_loopw [40] (fun iv wr=>∃ i:Nat,i≤32∧iv=.int .i64 i∧Hid (RowV wr go 156 (b8 (preN 32 R i)))∧Hid (RowV wr w.heap.size 152 (strLH st5 blk5 L5))∧Hid (RowV wr (w.heap.size+1) 156 (b8 (preN 32 R 0)))∧Below w.heap.size w wr) (fun iv _=>32-(intOf iv).toNat)
     case atStart =>
      refine⟨0,by omega,rfl,Lib.hid ?_,Lib.hid (RowV.alloc HB6.out _),Lib.hid (RowV.alloc HZ6.out _),hbw6.alloc (by have:=HGO.out;omega) _⟩
      rw[HGO.out];exact (heap_alloc_new w6 _).trans rfl
     case round =>
      obtain⟨i,hi,rfl,HOr,HBr,HZr,hbr⟩:=hrel
      clear HB6 HZ6 hbw6
      have hgl:go<wr.heap.size:=RowV.lt HOr.out
      by_cases hi32:i<32
      ·have cst:wr.cell? ⟨w.heap.size,i / 4,none⟩=some (.int .u32 ((stL st5).getD (i / 4) 0:Nat)):=RowV.cell HBr.out (strL_st (w32_at _ (by show i / 4<8;omega)))
       have cou:wr.cell? ⟨go,i,none⟩=some (.int .u8 ((preN 32 R i).getD i 0:Nat)):=RowV.cell HOr.out (b8_at _ (by rw[preN_len HRL.out hi];exact hi32))
       have fou:wr.frozen? ⟨go,i,none⟩=false:=RowV.free HOr.out i
       have hq0:(0:Int)≤(i:Int) / 4:=by omega
       have hq8:(i:Int) / 4<8:=by omega
       have hlt5:=HLT.out (i / 4)
       generalize hy:(stL st5).getD (i / 4) 0=y at *
       have hr4:i % 4=0∨i % 4=1∨i % 4=2∨i % 4=3:=by omega
       have HY:=Lib.hid hy
       clear hy
       rcases hr4 with h4 | h4 | h4 | h4
       ·have hr:(i:Int) % 4=0:=by omega
        have hval:R.getD i 0=y / 16777216:=by rw[HOUT.out i hi32,h4,HY.out];rfl
        go_wp2_with fail
        have hcast:(y:Int) / 16777216=((R.getD i 0:Nat):Int):=by rw[hval];simp
        rw[hcast]
        refine⟨⟨i+1,by omega,by go_num,Lib.hid ?_,Lib.hid (RowV.far HBr.out _ _ (by simp;omega)),Lib.hid (RowV.far HZr.out _ _ (by simp;omega)),hbr.setCell (p:=⟨go,i,none⟩) (by show w.heap.size≤go;omega) _⟩,by simp[intOf];omega⟩
        have:=RowV.set_ HOr.out i (.int .u8 ((R.getD i 0:Nat):Int))
        rw[←b8_set,preN_succ HRL.out hi32]at this
        exact this
       ·have hr:(i:Int) % 4=1:=by omega
        have hval:R.getD i 0=y / 65536 % 256:=by rw[HOUT.out i hi32,h4,HY.out];rfl
        go_wp2_with fail
        have hcast:(y:Int) / 65536 % 256=((R.getD i 0:Nat):Int):=by rw[hval];simp
        rw[hcast]
        refine⟨⟨i+1,by omega,by go_num,Lib.hid ?_,Lib.hid (RowV.far HBr.out _ _ (by simp;omega)),Lib.hid (RowV.far HZr.out _ _ (by simp;omega)),hbr.setCell (p:=⟨go,i,none⟩) (by show w.heap.size≤go;omega) _⟩,by simp[intOf];omega⟩
        have:=RowV.set_ HOr.out i (.int .u8 ((R.getD i 0:Nat):Int))
        rw[←b8_set,preN_succ HRL.out hi32]at this
        exact this
       ·have hr:(i:Int) % 4=2:=by omega
        have hval:R.getD i 0=y / 256 % 256:=by rw[HOUT.out i hi32,h4,HY.out];rfl
        go_wp2_with fail
        have hcast:(y:Int) / 256 % 256=((R.getD i 0:Nat):Int):=by rw[hval];simp
        rw[hcast]
        refine⟨⟨i+1,by omega,by go_num,Lib.hid ?_,Lib.hid (RowV.far HBr.out _ _ (by simp;omega)),Lib.hid (RowV.far HZr.out _ _ (by simp;omega)),hbr.setCell (p:=⟨go,i,none⟩) (by show w.heap.size≤go;omega) _⟩,by simp[intOf];omega⟩
        have:=RowV.set_ HOr.out i (.int .u8 ((R.getD i 0:Nat):Int))
        rw[←b8_set,preN_succ HRL.out hi32]at this
        exact this
       ·have hr:(i:Int) % 4=3:=by omega
        have hval:R.getD i 0=y % 256:=by rw[HOUT.out i hi32,h4,HY.out];rfl
        go_wp2_with fail
        have hcast:(y:Int) % 256=((R.getD i 0:Nat):Int):=by rw[hval];simp
        rw[hcast]
        refine⟨⟨i+1,by omega,by go_num,Lib.hid ?_,Lib.hid (RowV.far HBr.out _ _ (by simp;omega)),Lib.hid (RowV.far HZr.out _ _ (by simp;omega)),hbr.setCell (p:=⟨go,i,none⟩) (by show w.heap.size≤go;omega) _⟩,by simp[intOf];omega⟩
        have:=RowV.set_ HOr.out i (.int .u8 ((R.getD i 0:Nat):Int))
        rw[←b8_set,preN_succ HRL.out hi32]at this
        exact this
      ·have h32:i=32:=by omega
       have hO:wr.heap[go]? = some (.cells (b8 R).toArray 156 (0,0)):=by have:=HOr.out;rw[h32,preN_all HRL.out]at this;exact this
       have hi8:(Tryz.prog.info? 156).map (·.size)=some (b8 R).toArray.size:=by rw[List.size_toArray,b8_len,HRL.out];kernel_rfl
       have hz8:(b8 (preN 32 R 0)).toArray.size=(b8 R).toArray.size:=by rw[List.size_toArray,List.size_toArray,b8_len,b8_len,HRL.out,preN_len HRL.out (by omega)]
       have h1:(b8 R).toArray.all (·.oneCell')=true:=by rw[List.all_toArray,List.all_eq_true];exact b8_one R
       have HO:=Lib.hid hO;have HI8:=Lib.hid hi8;have HZ8:=Lib.hid hz8;have H18:=Lib.hid h1
       clear hO hi8 hz8 h1 h32 HOr hi
       generalize (b8 R).toArray=Y at *
       go_wp2_with (first | (refine wpList_load_row rfl _ _ rfl go rfl _ Y (0,0) _ HO.out Tryz.underlying156 rfl HI8.out ?_) | (refine wpList_store_row rfl _ _ _ rfl (w.heap.size+1) Y rfl rfl _ _ HZr.out HI8.out HZ8.out H18.out ?_))
       refine bodyPost_ret (v:=.agg Y) ?_ rfl ⟨rfl,?_⟩
       ·exact results_cell_row rfl _ _ (w.heap.size+1) _ _ (0,0) _ rfl (setRow_heap _ _ _ _ _ _ HZr.out) Tryz.underlying156 rfl HI8.out
       ·exact below_setRow hbr (by omega) _
  ·have hc:¬ ((N:Int)+(1+i)) % 64=56:=by omega
   go_wp2_with (at_builtin;refine wpList_append_own _ rfl _ _ 105 rfl (w.heap.size+2) 5 i0 (.int .u8 0) 1 1 Tryz.underlying105 HI.out.1 HI.out.2.1 HI.out.2.2.1 HI.out.2.2.2 rfl (by decide) _ _ _ rfl (hown.alloc _) ⟨wr.heap.size,0,none⟩ 1 1 [.int .u8 0] rfl rfl (cell_one_new _ _ _) (by simp[Value.oneCell']) (by unfold maxLen;omega) (by omega) (by simp;omega) ?_;intro v' w3 hown1 hgrow1 _;obtain⟨g1,cap1,rfl⟩:=ownsRow_succ hown1;have hb3:Below w.heap.size w w3:=(hbr.alloc (by omega) _).grown hgrow1 (by simp;omega) (fun r e=>by have:=ownsRow_block hown r e;omega);have HB3:=Lib.hid (grown_row (hown.alloc _) hgrow1 (by omega) (RowV.alloc HBr.out _));have HZ3:=Lib.hid (grown_row (hown.alloc _) hgrow1 (by omega) (RowV.alloc HZr.out _));have hbs3:w.heap.size+1<w3.heap.size:=RowV.lt HZ3.out;clear hown)
   refine⟨⟨i+1,some ⟨g1,0,none⟩,cap1,by omega,by rw[Nat.add_assoc],?_,HB3,HZ3,hb3⟩,?_⟩
   ·rw[←Nat.add_assoc,List.replicate_succ',←List.cons_append,b8_app];exact hown1
   ·show 65-(1+i+1)<65-(1+i)
    omega
theorem begin_strV:StrV [] (.agg (strLH Sha.st0 (List.replicate 64 0) 0).toArray) :=
 ⟨Sha.st0,List.replicate 64 0,rfl,Sha.str0 _ (by simp),fun x hx=>by have:=(List.mem_replicate.1 hx).2;omega⟩
theorem begin_cells:((((((((Tryz.zeroCells152.setIfInBounds 0 (.int .u32 1779033703)).setIfInBounds 1 (.int .u32 3144134277)).setIfInBounds 2 (.int .u32 1013904242)).setIfInBounds 3 (.int .u32 2773480762)).setIfInBounds 4 (.int .u32 1359893119)).setIfInBounds 5 (.int .u32 2600822924)).setIfInBounds 6 (.int .u32 528734635)).setIfInBounds 7 (.int .u32 1541459225))=(strLH Sha.st0 (List.replicate 64 0) 0).toArray:=by kernel_rfl
theorem begin_size:(Tryz.prog.info? 152).map (·.size)=some (strLH Sha.st0 (List.replicate 64 0) 0).toArray.size:=by kernel_rfl
theorem begin_all:(strLH Sha.st0 (List.replicate 64 0) 0).toArray.all (·.oneCell')=true:=by kernel_rfl
theorem zero_size:Tryz.zeroCells152.size=(strLH Sha.st0 (List.replicate 64 0) 0).toArray.size:=by kernel_rfl
theorem begin_any (w:World):Calls Tryz.prog 117 #[] w (fun e w'=>(∃ v,e=.returned v∧StrV [] v)∧Below w.heap.size w w'):=by
 have hc:=begin_cells
 have hi:=begin_size
 have h1:=begin_all
 have hz:=zero_size
 have hv:=begin_strV
 generalize (strLH Sha.st0 (List.replicate 64 0) 0).toArray=X at *
 have HC:=Lib.hid hc;have HI:=Lib.hid hi;have H1:=Lib.hid h1;have HZ:=Lib.hid hz;have HV:=Lib.hid hv
 clear hc hi h1 hz hv
 go_enter Tryz.func117,Tryz.ntmps117
 go_wp2_with (refine wpList_store_row rfl _ _ _ rfl w.heap.size X rfl (congrArg Value.agg HC.out) _ _ (heap_alloc_new w _) HI.out HZ.out H1.out ?_)
 refine bodyPost_ret (v:=.agg X) ?_ rfl ⟨⟨_,rfl,HV.out⟩,?_⟩
 ·exact results_cell_row rfl _ _ w.heap.size _ _ (0,0) _ rfl (setRow_heap _ _ _ _ _ _ (heap_alloc_new w _)) Tryz.underlying152 rfl HI.out
 ·exact below_setRow (balloc (Below.refl _ _) _) (Nat.le_refl _) _
def StrR (w:World) (g:Nat) (m:List Nat):Prop:=∃ X,StrV m (.agg X)∧w.heap[g]? = some (.cells X 152 (0,0))∧X.size=73
theorem StrR.lt {w:World} {g:Nat} {m:List Nat} (h:StrR w g m):g<w.heap.size:=by
 obtain⟨X,_,h,_⟩:=h
 rcases Nat.lt_or_ge g w.heap.size with hl | hl
 ·exact hl
 ·rw[Array.getElem?_eq_none hl]at h;cases h
theorem StrR.keep {w w':World} {g:Nat} {m:List Nat} (h:StrR w g m) (hb:Below w.heap.size w w'):StrR w' g m:=by
 have hl:=h.lt
 obtain⟨X,hv,h,hs⟩:=h
 exact⟨X,hv,(hb.block g hl).trans h,hs⟩
theorem strV_agg {m:List Nat} {v:Value} (h:StrV m v):∃ X,v=.agg X∧X.size=73∧X.all (·.oneCell')=true:=by
 obtain⟨st,blk,rfl,hst,_⟩:=h
 exact⟨_,rfl,by rw[List.size_toArray,strLH_len hst.len],by rw[List.all_toArray,List.all_eq_true];exact strL_one⟩
theorem inf73:(Tryz.prog.info? 152).map (·.size)=some 73:=by kernel_rfl
theorem zero73s:Tryz.zeroCells152.size=73:=by kernel_rfl
def D1 (tag B:Nat) (j:Nat) (v:Value) (w:World):Prop :=
 match j with
 | 0=>StrV [] v
 | 1=>v=.int .i64 (tag:Int)
 | 2=>v=.int .u8 (tag:Int)
 | 3=>∃ b,v=.slice (some ⟨b,0,none⟩) 1 1∧w.cell? ⟨b,0,none⟩=some (.int .u8 (tag:Int))
 | 4=>v=.string (toN [tag])
 | 5=>StrV [tag] v
 | 6=>∃ g,v=.pointer (some ⟨g,0,none⟩)∧B≤g∧w.heap[g]? = some (.cells Tryz.zeroCells152 152 (0,0))
 | _=>True
theorem heap_keep {w w':World} {g:Nat} {o:Obj} (h:w.heap[g]? = some o) (hb:Below w.heap.size w w'):w'.heap[g]? = some o:=by
 refine (hb.block g ?_).trans h
 rcases Nat.lt_or_ge g w.heap.size with hl | hl
 ·exact hl
 ·rw[Array.getElem?_eq_none hl]at h;cases h
theorem D1.keep {tag B:Nat} (j:Nat) (v:Value) (w w':World) (h:D1 tag B j v w) (hb:Below w.heap.size w w'):D1 tag B j v w':=by
 unfold D1 at h
 split at h
 all_goals first
  | exact h
  | (obtain⟨b,e,hc⟩:=h;exact⟨b,e,cell_keep hb hc⟩)
  | (obtain⟨g,e,hg,hx⟩:=h;exact⟨g,e,hg,heap_keep hx hb⟩)
  | (unfold D1;split <;> first | trivial | (exfalso;simp_all;done))
def D2 (m:List Nat) (x:ByteArray) (j:Nat) (v:Value) (w:World):Prop :=
 match j with
 | 0=>StrV m v
 | 1=>v=.string x
 | 2=>∃ A c,v=.slice A (Sha.wireB (nb x)).length c∧Reads w 1 A (Sha.wireB (nb x)).length (b8 (Sha.wireB (nb x)))
 | 3=>v=.string (toN (Sha.wireB (nb x)))
 | 4=>StrV (m++Sha.wireB (nb x)) v
 | _=>True
theorem D2.keep {m:List Nat} {x:ByteArray} (j:Nat) (v:Value) (w w':World) (h:D2 m x j v w) (hb:Below w.heap.size w w'):D2 m x j v w':=by
 unfold D2 at h
 split at h
 all_goals first
  | exact h
  | (obtain⟨A,c,e,hR⟩:=h;exact⟨A,c,e,hR.keep hb⟩)
  | (unfold D2;split <;> first | trivial | (exfalso;simp_all;done))
theorem wireB_len (s:ByteArray):0<(Sha.wireB (nb s)).length∧(Sha.wireB (nb s)).length≤11+s.size:=by
 unfold Sha.wireB
 rw[List.length_append,nb_len]
 have:=Sha.vint_len (2*s.size)
 refine⟨?_,by omega⟩
 have:0<(Sha.vint (2*s.size)).length:=by
  unfold Sha.vint Sha.vintF
  split <;> simp
 omega
def heard (tag:Nat) (ps:List ByteArray) (k:Nat):List Nat:=Sha.input tag ((ps.take k).map nb)
theorem heard_zero (tag:Nat) (ps:List ByteArray):heard tag ps 0=[tag]:=rfl
theorem heard_succ (tag:Nat) {ps:List ByteArray} {k:Nat} {x:ByteArray} (hx:ps[k]? = some x):heard tag ps (k+1)=heard tag ps k++Sha.wireB (nb x):=by
 unfold heard Sha.input
 rw[List.take_add_one,hx]
 simp
theorem heard_len (tag:Nat) (ps:List ByteArray) (hs:∀ s∈ps,s.size≤1000000):∀ k,k≤ps.length→(heard tag ps k).length≤1+k*1000011
 | 0,_=>by rw[heard_zero];simp
 | k+1,hk=>by
  have hx:ps[k]? = some ps[k]:=List.getElem?_eq_getElem (by omega)
  have h1:=heard_len tag ps hs k (by omega)
  have h2:=hs _ (List.getElem_mem (show k<ps.length by omega))
  have h3:=(wireB_len ps[k]).2
  rw[heard_succ tag hx,List.length_append,Nat.add_mul]
  omega
theorem heard_all (tag:Nat) (ps:List ByteArray):heard tag ps ps.length=Sha.input tag (ps.map nb):=by
 unfold heard
 rw[List.take_of_length_le (Nat.le_refl _)]
def Ks2 (w:World):Prop:=∃ t fr,w.heap[1]? = some (.cells (w32 Sha.ks).toArray t fr)
theorem Ks2.keep {w w':World} (h:Ks2 w) (hb:Below w.heap.size w w'):Ks2 w':=by
 obtain⟨t,fr,h⟩:=h
 refine⟨t,fr,(hb.block _ ?_).trans h⟩
 rcases Nat.lt_or_ge 1 w.heap.size with hlt | hge
 ·exact hlt
 ·rw[Array.getElem?_eq_none hge]at h;cases h
theorem Ks2.cell {w:World} (h:Ks2 w) {t:Nat} (ht:t<64):w.cell? ⟨1,t,none⟩=some (.int .u32 (Sha.ks.getD t 0:Nat)):=by
 obtain⟨t0,fr,h⟩:=h
 rw[cell_of_row w _ t _ t0 _ h,List.getElem?_toArray]
 exact w32_at Sha.ks (by rw[Sha.ks_len];exact ht)
def mixL (s u:Sha.St) (i:Nat):List Nat:=(List.zipWith Sha.add32 (stL s) (stL u)).take i++(stL s).drop i
structure SmS (w:World) (M:List Nat) (gm:Nat) (s:Sha.St) (W:World):Prop where
 r:RowV W w.heap.size 156 (b8 (List.replicate 32 0))
 s:Row32 W (w.heap.size+1) 148 (stL s)
 p:Reads W 1 (some ⟨gm,0,none⟩) M.length (b8 M)
 b:Below w.heap.size w W
theorem SmS.keep {w W W':World} {M:List Nat} {gm:Nat} {s:Sha.St} (h:SmS w M gm s W) (hb:Below W.heap.size W W'):SmS w M gm s W':=⟨h.r.keep hb,h.s.keep hb,h.p.keep hb,bstep h.b hb⟩
structure SvS (w:World) (M:List Nat) (gm:Nat) (s:Sha.St) (gw gv:Nat) (S:List Nat) (u:Sha.St) (W:World):Prop where
 m:SmS w M gm s W
 w:Row32 W gw 265 S
 v:Row32 W gv 148 (stL u)
theorem SvS.keep {w W W':World} {M:List Nat} {gm gw gv:Nat} {s u:Sha.St} {S:List Nat} (h:SvS w M gm s gw gv S u W) (hb:Below W.heap.size W W'):SvS w M gm s gw gv S u W':=⟨h.m.keep hb,h.w.keep hb,h.v.keep hb⟩
theorem SmS.lt {w W:World} {M:List Nat} {gm:Nat} {s:Sha.St} (h:SmS w M gm s W) (hM:0<M.length):gm<W.heap.size:=by
 obtain⟨b,o,e,hc⟩:=h.p.2 hM
 injection e with e
 injection e with e1 e2
 subst e1
 exact cell_lt (hc 0 _ (b8_at M (k:=0) hM))
structure MxS (w:World) (M:List Nat) (gm:Nat) (s u:Sha.St) (gv i:Nat) (W:World):Prop where
 r:RowV W w.heap.size 156 (b8 (List.replicate 32 0))
 s:Row32 W (w.heap.size+1) 148 (mixL s u i)
 p:Reads W 1 (some ⟨gm,0,none⟩) M.length (b8 M)
 b:Below w.heap.size w W
 v:Row32 W gv 148 (stL u)
theorem MxS.keep {w W W':World} {M:List Nat} {gm gv i:Nat} {s u:Sha.St} (h:MxS w M gm s u gv i W) (hb:Below W.heap.size W W'):MxS w M gm s u gv i W':=⟨h.r.keep hb,h.s.keep hb,h.p.keep hb,bstep h.b hb,h.v.keep hb⟩
theorem b8_all (l:List Nat):(b8 l).toArray.all (·.oneCell')=true:=by rw[List.all_toArray,List.all_eq_true];exact b8_one l
def RPathPost (r:Option (List ByteArray)) (w:World) (e:Ending) (w':World):Prop :=
 Below w.heap.size w w'∧match r with
  | none=>e=.returned (.tuple #[.slice none 0 0,.bool false])
  | some out=>∃ A c,e=.returned (.tuple #[.slice A out.length c,.bool true])∧Reads w' 1 A out.length (out.map .string)∧(∀ a,A=some a→w.heap.size≤a.block)
end Go.Proofs.YtlkbkclnbppigaaGreatDoor
