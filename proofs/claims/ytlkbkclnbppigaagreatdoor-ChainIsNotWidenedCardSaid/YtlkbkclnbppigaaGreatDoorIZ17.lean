/- The hash of a message: the walk of Stream.Sum. -/
import Derived.Test.YtlkbkclnbppigaaGreatDoorIZ14
set_option maxHeartbeats 4000000
namespace Go.Proofs.YtlkbkclnbppigaaGreatDoor
open Tryz
open Go.RowKit Go.Sort
set_option linter.unusedVariables false
set_option linter.unusedSimpArgs false
set_option maxRecDepth 100000
def jM(n:Nat)(S:List Nat)(t:Nat):List Nat:=S.take t++List.replicate (n-t) 0
section
variable {n:Nat} {S:List Nat}
theorem TK(hS:S.length=n){t:Nat}(ht:t<n):(jM n S t).set t (S.getD t 0)=jM n S (t+1):=by
 unfold jM;have hl:(S.take t).length=t:=by rw[List.length_take];omega
 rw[List.set_append_right _ _ aB,hl,Nat.sub_self,show n-t=(n-(t+1))+1 by omega,List.replicate_succ,List.set_cons_zero,List.take_add_one,List.getElem?_eq_getElem aB];rw[List.getD_eq_getElem?_getD,List.getElem?_eq_getElem aB];rw[List.append_assoc];rfl
theorem Gt(hS:S.length=n){t:Nat}(ht:t<=n):(jM n S t).length=n:=by unfold jM;simp[hS];omega
theorem TM(hS:S.length=n):jM n S n=S:=by unfold jM;rw[List.take_of_length_le aB];simp
end
theorem TN(L:List Nat)(k v:Nat):b8 (L.set k v)=(b8 L).set k (.int .u8 (v:Int)):=by simp[b8,List.map_set]
theorem TP(s:Sha.St){q r:Nat}(hq:q<8)(hr:r<4):(Sha.out s).getD (4*q+r) 0=(Sha.bytes4 ((stL s).getD q 0)).getD r 0:=by
 have h1:q=0\/q=1\/q=2\/q=3\/q=4\/q=5\/q=6\/q=7:=aB;have h2:r=0\/r=1\/r=2\/r=3:=aB;rcases h1 with rfl | rfl | rfl | rfl | rfl | rfl | rfl | rfl <;> rcases h2 with rfl | rfl | rfl | rfl <;> rfl
theorem TQ{s:Sha.St}(h:Sha.Ok s)(q:Nat):(stL s).getD q 0<4294967296:=by
 obtain⟨h0,h1,h2,h3,h4,h5,h6,h7⟩:=h;unfold stL
 match q with
 | 0=>exact h0
 | 1=>exact h1
 | 2=>exact h2
 | 3=>exact h3
 | 4=>exact h4
 | 5=>exact h5
 | 6=>exact h6
 | 7=>exact h7
 | _+8=>exact (by decide:0<4294967296)
theorem TR(x:Nat):(Sha.bytes8 x).length=8:=rfl
theorem TS(w:World)(base x:Nat)(hb:base<=w.heap.size):(w.alloc (.cells #[.int .u8 (x:Int)] 5)).ownsRow base 5 1 (.slice (some ⟨w.heap.size,0,none⟩) 1 1) 1 (b8 [x]) :=
 ⟨rfl,.inr ⟨w.heap.size,1,#[.int .u8 (x:Int)],rfl,hb,heap_alloc_new w _,Nat.le_refl _,aK,rfl,rfl⟩⟩
theorem TT{w:World}{base n j k:Nat}{v:Value}{P S:List Nat}{x:Int}(h:w.ownsRow base 5 1 v k (b8 (P++S.take j)++[.int .u8 x]))(hk:k=n+(j+1))(hx:x=((S.getD j 0:Nat):Int))(hj:j<S.length) :
  w.ownsRow base 5 1 v (n+(j+1)) (b8 (P++S.take (j+1))):=by
 rw[hk,hx]at h;have e:b8 (P++S.take (j+1))=b8 (P++S.take j)++[.int .u8 ((S.getD j 0:Nat):Int)]:=by
  rw[List.take_add_one,List.getElem?_eq_getElem hj,List.getD_eq_getElem?_getD,List.getElem?_eq_getElem hj,<-List.append_assoc,rQ];rfl
 rw[e];exact h
theorem TU{x:Nat}(hx:x<18446744073709551616):∀ b∈Sha.bytes8 x,b<256:=by
 intro b hb;unfold Sha.bytes8 at hb;rcases List.mem_append.1 hb with hb | hb
 ·exact Sha.bytes4_lt (Nat.mod_lt _ aK) b hb
 ·exact Sha.bytes4_lt (Nat.mod_lt _ aK) b hb
theorem Gu{n:Nat}(hn:n<=100000000000):∀ b∈Sha.padT n,b<256:=by
 intro b hb;unfold Sha.padT at hb;rcases List.mem_cons.1 hb with hb | hb
 ·omega
 ·rcases List.mem_append.1 hb with hb | hb
  ·have:=(List.mem_replicate.1 hb).2;omega
  ·exact TU aB b hb
theorem xu{w w':World}{base n g:Nat}{v:Value}{e t:TypeId}{xs cs:List Value}(hown:w.ownsRow base e 1 v n xs)(hg:w.grownBy w' v.ownBlock)(hlt:g<base)(h:aN w g t cs):aN w' g t cs :=
 (hg.block g (aN.lt h) (fun e=>by have:=fE hown g e.symm;omega)).trans h
theorem TW(m:List Nat)(v:Value)(w:World)(hv:iF m v)(hm:m.length<=100000000000)(hK:Ks w) :
  Calls prog 120 #[v] w (Ret w (.agg (b8 (Sha.sum m)).toArray)):=by
 obtain⟨i0,hi,hz0,hz1,hz2⟩:=info_parts Ae;have HI:=aA (And.intro hi (And.intro hz0 (And.intro hz1 hz2)));clear hi hz0 hz1 hz2;obtain⟨st,blk,rfl,hst,hbk⟩:=hv;obtain⟨N,hN⟩:∃ N,N=m.length:=⟨_,rfl⟩;have hN2:N<=100000000000:=aB;have hSV:iF m (.agg (bP st blk N).toArray):=⟨st,blk,by rw[hN],hst,hbk⟩;obtain⟨R,hR⟩:∃ R,R=Sha.sum m:=⟨_,rfl⟩;rw[<-hN,<-hR];obtain⟨X,hX⟩:∃ X,X=(bP st blk N).toArray:=⟨_,rfl⟩;rw[<-hX]at hSV ⊢;obtain⟨p,hp⟩:∃ p,p=(119-N % 64) % 64:=⟨_,rfl⟩;have hp2:p<=63:=aB;have hp3:∀ i,i<=p->((N+1+i) % 64=56↔i=p):=by intro i hi;omega
 have hblk:=hst.len;have HK:=aA hK;have HSV:=aA hSV;have HR:=aA hR;have HX:=aA hX;have HP:=aA hp;have HP3:=aA hp3;have HN:=aA hN;have HBL:=aA hblk;clear hK hSV hR hX hp hp3 hst hbk hN hblk hm;go_enter func120,ntmps120;go_upto_region 1 with fail
 generalize hw0:World.alloc _ _=w0;have hB:aN w0 w.heap.size 152 (bP st blk N):=by rw[<-hw0,<-show X.toList=bP st blk N by rw[HX.out]];exact (heap_alloc2_old w _ _).trans aH
 have hZ:aN w0 (w.heap.size+1) 156 (b8 (jM 32 R 0)):=by rw[<-hw0];exact (heap_alloc2_new w _ _).trans rfl
 have hbw:aF w w0:=oH;clear hw0;have hz0:w.heap.size+1<w0.heap.size:=aN.lt hZ;have c72:w0.cell? ⟨w.heap.size,72,none⟩=some (.int .u64 (N:Int)):=aN.cell hB (xR HBL.out);have HB:=aA hB;have HZ:=aA hZ;clear hB hZ;go_wp2;clear c72;go_loopw [4] (fun pv wr=>∃(i:Nat)(A:Option Addr)(c:Nat),i<=p/\pv=.slice A (1+i) c/\wr.ownsRow (w.heap.size+2) 5 1 (.slice A (1+i) c) (1+i) (b8 (128 :: List.replicate i 0))/\Hid (aN wr w.heap.size 152 (bP st blk N))/\Hid (aN wr (w.heap.size+1) 156 (b8 (jM 32 R 0)))/\aF w wr) (fun pv _=>match pv with | .slice _ n _=>65-n | _=>0)
 case atStart =>
  refine⟨0,some ⟨w0.heap.size,0,none⟩,1,aB,rfl,TS _ _ 128 aB,aA (aN.alloc HB.out _),aA (aN.alloc HZ.out _),(hbw.alloc aB _)⟩
 case round =>
  obtain⟨i,A,c,hi,rfl,hown,HBr,HZr,hbr⟩:=hrel;clear HB HZ hbw;have hbs:w.heap.size+1<wr.heap.size:=aN.lt HZr.out;have c72:wr.cell? ⟨w.heap.size,72,none⟩=some (.int .u64 (N:Int)):=aN.cell HBr.out (xR HBL.out);have h56:=HP3.out i hi;by_cases h:i=p
  ·have hc:((N:Int)+(1+p)) % 64=56:=aB;have hpad:128 :: List.replicate i 0=(128 :: List.replicate p 0)++(Sha.bytes8 (8*N)).take 0:=by rw[h];simp
   have hn1:1+i=1+p+0:=aB;rw[hpad,hn1]at hown;rw[hn1];clear hpad hn1 h56 h hi;go_wp2_with fail;obtain⟨wo,rfl⟩:∃ wo:World,wo=wr:=⟨_,rfl⟩;go_loopw [23,4] (fun jv pv wr=>∃(j:Nat)(A:Option Addr)(c:Nat),j<=8/\jv=.int .i64 j/\pv=.slice A (1+p+j) c/\wr.ownsRow (w.heap.size+2) 5 1 (.slice A (1+p+j) c) (1+p+j) (b8 ((128 :: List.replicate p 0)++(Sha.bytes8 (8*N)).take j))/\Hid (aN wr w.heap.size 152 (bP st blk N))/\Hid (aN wr (w.heap.size+1) 156 (b8 (jM 32 R 0)))/\aF w wr) (fun jv _ _=>8-(intOf jv).toNat)
   case atStart=>exact⟨0,A,c,aB,rfl,rfl,hown,HBr,HZr,hbr⟩
   case round =>
    clear HBr HZr hbr hown c72 hc;obtain⟨j,A,c,hj,rfl,rfl,hown,HBr,HZr,hbr⟩:=hrel;have hbs:w.heap.size+1<wr.heap.size:=aN.lt HZr.out;by_cases h8:j<8
    ·have hj8:j=0\/j=1\/j=2\/j=3\/j=4\/j=5\/j=6\/j=7:=aB;clear h8 hj;rcases hj8 with rfl | rfl | rfl | rfl | rfl | rfl | rfl | rfl
     ·exact o7
     ·exact o7
     ·exact o7
     ·exact o7
     ·exact o7
     ·exact o7
     ·exact o7
     ·exact o7
    ·have hj8:j=8:=aB;have hpt:(128 :: List.replicate p 0)++(Sha.bytes8 (8*N)).take j=Sha.padT N:=by rw[hj8,HP.out];rfl
     rw[hpt]at hown;have hpl:(Sha.padT N).length=1+p+j:=by rw[Sha.padT_len,HP.out,hj8];omega
     have hcv:=ui wr A (1+p+j) c (Sha.padT N) hpl (Gu hN2) aB (Gg hown);have hpz:(toN (Sha.padT N)).size<=200:=by rw[xg,hpl];omega
     have hadd:=Aa m (.agg X) (toN (Sha.padT N)) wr HSV.out o6 (HK.out.keep hbr);rw[xe (Gu hN2),show m++Sha.padT N=Sha.pad m by rw[Sha.pad_eq,HN.out]]at hadd;have hBX:wr.heap[w.heap.size]? = some (.cells X 152 (0,0)):=by rw[HX.out];exact HBr.out
     have hiX:(prog.info? 152).map (·.size)=some X.size:=by rw[HX.out,List.size_toArray,oQ HBL.out];kernel_rfl
     have HADD:=aA hadd;have HBX:=aA hBX;have HIX:=aA hiX;generalize toN (Sha.padT N)=T at *;clear hadd hBX hiX hpt hpl hown hj8 HSV;go_upto_region 11 with (first | (refine wpList_load_row rfl _ _ rfl w.heap.size rfl _ X (0,0) _ HBX.out underlying152 rfl HIX.out ?_) | (go_at_call 118;refine HADD.out.mono ?_;rintro e w5 ⟨⟨v5,rfl,hv5⟩,hb5⟩;obtain⟨st5,blk5,rfl,hst5,hbk5⟩:=hv5;have hi5:(prog.info? 152).map (·.size)=some (bP st5 blk5 (Sha.pad m).length).toArray.size:=(by rw[List.size_toArray,oQ hst5.len];kernel_rfl)) | (refine wpList_store_row rfl _ _ _ rfl w.heap.size (bP st5 blk5 (Sha.pad m).length).toArray rfl rfl _ _ (aN.keep HBr.out hb5) hi5 (by rw[List.size_toArray,List.size_toArray,oQ hst5.len,oQ HBL.out]) Ac ?_))
     try simp only[Act.put,ag]
     have hs5:=hb5.size;obtain⟨w6,hw6⟩:∃ y:World,y=w5.setRow w.heap.size (bP st5 blk5 (Sha.pad m).length).toArray:=⟨_,rfl⟩;rw[<-hw6];have hB6:aN w6 w.heap.size 152 (bP st5 blk5 (Sha.pad m).length):=by rw[hw6];exact aN.row (aN.keep HBr.out hb5) _
     have hZ6:aN w6 (w.heap.size+1) 156 (b8 (jM 32 R 0)):=by rw[hw6];exact aN.row_far (aN.keep HZr.out hb5) _ _ aB
     have hbw6:aF w w6:=by rw[hw6];exact below_setRow (hbr.trans (hb5.mono aB)) (Nat.le_refl _) _
     have hRo:R=Sha.out st5:=by rw[HR.out];exact hst5.sum.symm
     have hok5:=hst5.ok;have hRl:R.length=32:=by rw[hRo];rfl
     have hout:∀ i,i<32->R.getD i 0=(Sha.bytes4 ((stL st5).getD (i / 4) 0)).getD (i % 4) 0:=fun i hi=>by
      have:=TP st5 (q:=i / 4) (r:=i % 4) aB aB;rw[show 4*(i / 4)+i % 4=i by omega]at this;rw[hRo];exact this
     have hlt:=TQ hok5;have HB6:=aA hB6;have HZ6:=aA hZ6;have HOUT:=aA hout;have HRL:=aA hRl;have HLT:=aA hlt;have HBL5:=aA hst5.len;clear hw6 hB6 hZ6 hRo hok5 hRl hout hlt hst5 hbk5 hi5 hb5 hs5 HBr HZr hbr HBX HIX HADD hcv HK HR HX;generalize (Sha.pad m).length=L5 at *;obtain⟨go,hgo⟩:∃ go,go=w6.heap.size:=⟨_,rfl⟩;have hgo2:w.heap.size+1<go:=by rw[hgo];exact aN.lt HZ6.out
     go_wp2_with fail;rw[<-hgo];have HGO:=aA hgo;clear hgo;go_loopw [40] (fun iv wr=>∃ i:Nat,i<=32/\iv=.int .i64 i/\Hid (aN wr go 156 (b8 (jM 32 R i)))/\Hid (aN wr w.heap.size 152 (bP st5 blk5 L5))/\Hid (aN wr (w.heap.size+1) 156 (b8 (jM 32 R 0)))/\aF w wr) (fun iv _=>32-(intOf iv).toNat)
     case atStart =>
      refine⟨0,aB,rfl,aA ?_,aA (aN.alloc HB6.out _),aA (aN.alloc HZ6.out _),hbw6.alloc (by have:=HGO.out;omega) _⟩;rw[HGO.out];exact (heap_alloc_new w6 _).trans rfl
     case round =>
      obtain⟨i,hi,rfl,HOr,HBr,HZr,hbr⟩:=hrel;clear HB6 HZ6 hbw6;have hgl:go<wr.heap.size:=aN.lt HOr.out;by_cases hi32:i<32
      ·have cst:wr.cell? ⟨w.heap.size,i / 4,none⟩=some (.int .u32 ((stL st5).getD (i / 4) 0:Nat)):=aN.cell HBr.out (nK (wu _ (by show i / 4<8;omega)));have cou:wr.cell? ⟨go,i,none⟩=some (.int .u8 ((jM 32 R i).getD i 0:Nat)):=aN.cell HOr.out (qL _ (by rw[Gt HRL.out hi];exact hi32));have fou:wr.frozen? ⟨go,i,none⟩=false:=aN.free HOr.out i;have hq0:(0:Int)<=(i:Int) / 4:=aB;have hq8:(i:Int) / 4<8:=aB;have hlt5:=HLT.out (i / 4);generalize hy:(stL st5).getD (i / 4) 0=y at *;have hr4:i % 4=0\/i % 4=1\/i % 4=2\/i % 4=3:=aB;have HY:=aA hy;clear hy;rcases hr4 with h4 | h4 | h4 | h4
       ·have hr:(i:Int) % 4=0:=aB;have hval:R.getD i 0=y / 16777216:=xw;go_wp2_with fail;have hcast:(y:Int) / 16777216=((R.getD i 0:Nat):Int):=by rw[hval];simp
        exact xy
       ·have hr:(i:Int) % 4=1:=aB;have hval:R.getD i 0=y / 65536 % 256:=xw;go_wp2_with fail;have hcast:(y:Int) / 65536 % 256=((R.getD i 0:Nat):Int):=by rw[hval];simp
        exact xy
       ·have hr:(i:Int) % 4=2:=aB;have hval:R.getD i 0=y / 256 % 256:=xw;go_wp2_with fail;have hcast:(y:Int) / 256 % 256=((R.getD i 0:Nat):Int):=by rw[hval];simp
        exact xy
       ·have hr:(i:Int) % 4=3:=aB;have hval:R.getD i 0=y % 256:=xw;go_wp2_with fail;have hcast:(y:Int) % 256=((R.getD i 0:Nat):Int):=by rw[hval];simp
        exact xy
      ·have h32:i=32:=aB;have hO:wr.heap[go]? = some (.cells (b8 R).toArray 156 (0,0)):=by have:=HOr.out;rw[h32,TM HRL.out]at this;exact this
       have hi8:(prog.info? 156).map (·.size)=some (b8 R).toArray.size:=by rw[List.size_toArray,dU,HRL.out];kernel_rfl
       have hz8:(b8 (jM 32 R 0)).toArray.size=(b8 R).toArray.size:=by rw[List.size_toArray,List.size_toArray,dU,dU,HRL.out,Gt HRL.out aB]
       have h1:(b8 R).toArray.all (·.oneCell')=true:=by rw[List.all_toArray,List.all_eq_true];exact nC R
       have HO:=aA hO;have HI8:=aA hi8;have HZ8:=aA hz8;have H18:=aA h1;clear hO hi8 hz8 h1 h32 HOr hi;generalize (b8 R).toArray=Y at *;go_wp2_with (first | (refine wpList_load_row rfl _ _ rfl go rfl _ Y (0,0) _ HO.out underlying156 rfl HI8.out ?_) | (refine wpList_store_row rfl _ _ _ rfl (w.heap.size+1) Y rfl rfl _ _ HZr.out HI8.out HZ8.out H18.out ?_));refine bodyPost_ret (v:=.agg Y) ?_ rfl ⟨rfl,?_⟩
       ·exact results_cell_row rfl _ _ (w.heap.size+1) _ _ (0,0) _ rfl (setRow_heap _ _ _ _ _ _ HZr.out) underlying156 rfl HI8.out
       ·exact below_setRow hbr aB _
  ·have hc:¬ ((N:Int)+(1+i)) % 64=56:=aB;go_wp2_with (at_builtin;refine wpList_append_own _ rfl _ _ 105 rfl (w.heap.size+2) 5 i0 (.int .u8 0) 1 1 underlying105 HI.out.1 HI.out.2.1 HI.out.2.2.1 HI.out.2.2.2 rfl aK _ _ _ rfl (hown.alloc _) ⟨wr.heap.size,0,none⟩ 1 1 [.int .u8 0] rfl rfl (cell_one_new _ _ _) jJ dh aB aP ?_;intro v' w3 hown1 hgrow1 _;obtain⟨g1,cap1,rfl⟩:=ownsRow_succ hown1;have hb3:aF w w3:=(hbr.alloc aB _).grown hgrow1 aP (fun r e=>Au);have HB3:=aA (xu (hown.alloc _) hgrow1 aB (aN.alloc HBr.out _));have HZ3:=aA (xu (hown.alloc _) hgrow1 aB (aN.alloc HZr.out _));have hbs3:w.heap.size+1<w3.heap.size:=aN.lt HZ3.out;clear hown);refine⟨⟨i+1,some ⟨g1,0,none⟩,cap1,aB,by rw[Nat.add_assoc],?_,HB3,HZ3,hb3⟩,?_⟩
   ·rw[<-Nat.add_assoc,List.replicate_succ',<-List.cons_append,rQ];exact hown1
   ·show 65-(1+i+1)<65-(1+i);omega
theorem TY:iF [] (.agg (bP Sha.st0 (List.replicate 64 0) 0).toArray) :=
 ⟨Sha.st0,List.replicate 64 0,rfl,Sha.str0 _ aH,fun x hx=>by have:=(List.mem_replicate.1 hx).2;omega⟩
theorem TZ:((((((((zeroCells152.setIfInBounds 0 (.int .u32 1779033703)).setIfInBounds 1 (.int .u32 3144134277)).setIfInBounds 2 (.int .u32 1013904242)).setIfInBounds 3 (.int .u32 2773480762)).setIfInBounds 4 (.int .u32 1359893119)).setIfInBounds 5 (.int .u32 2600822924)).setIfInBounds 6 (.int .u32 528734635)).setIfInBounds 7 (.int .u32 1541459225))=(bP Sha.st0 (List.replicate 64 0) 0).toArray:=by kernel_rfl
theorem Tc:(prog.info? 152).map (·.size)=some (bP Sha.st0 (List.replicate 64 0) 0).toArray.size:=by kernel_rfl
theorem Td:(bP Sha.st0 (List.replicate 64 0) 0).toArray.all (·.oneCell')=true:=by kernel_rfl
theorem Tf:zeroCells152.size=(bP Sha.st0 (List.replicate 64 0) 0).toArray.size:=by kernel_rfl
theorem Ti(w:World):Calls prog 117 #[] w (fun e w'=>(∃ v,e=.returned v/\iF [] v)/\aF w w'):=by
 have hc:=TZ;have hi:=Tc;have h1:=Td;have hz:=Tf;have hv:=TY;generalize (bP Sha.st0 (List.replicate 64 0) 0).toArray=X at *;have HC:=aA hc;have HI:=aA hi;have H1:=aA h1;have HZ:=aA hz;have HV:=aA hv;clear hc hi h1 hz hv;go_enter func117,ntmps117;go_wp2_with (refine wpList_store_row rfl _ _ _ rfl w.heap.size X rfl (congrArg Value.agg HC.out) _ _ (heap_alloc_new w _) HI.out HZ.out H1.out ?_);refine bodyPost_ret (v:=.agg X) ?_ rfl ⟨⟨_,rfl,HV.out⟩,?_⟩
 ·exact results_cell_row rfl _ _ w.heap.size _ _ (0,0) _ rfl (setRow_heap _ _ _ _ _ _ (heap_alloc_new w _)) underlying152 rfl HI.out
 ·exact below_setRow (aU (Below.refl _ _) _) (Nat.le_refl _) _
def qP(w:World)(g:Nat)(m:List Nat):Prop:=∃ X,iF m (.agg X)/\w.heap[g]? = some (.cells X 152 (0,0))/\X.size=73
theorem qP.lt{w:World}{g:Nat}{m:List Nat}(h:qP w g m):g<w.heap.size:=by
 obtain⟨X,_,h,_⟩:=h;exact Gv
theorem qP.keep{w w':World}{g:Nat}{m:List Nat}(h:qP w g m)(hb:aF w w'):qP w' g m:=by
 have hl:=h.lt;obtain⟨X,hv,h,hs⟩:=h;exact⟨X,hv,(hb.block g hl).trans h,hs⟩
theorem Gw{m:List Nat}{v:Value}(h:iF m v):∃ X,v=.agg X/\X.size=73/\X.all (·.oneCell')=true:=by
 obtain⟨st,blk,rfl,hst,_⟩:=h;exact⟨_,rfl,by rw[List.size_toArray,oQ hst.len],Ac⟩
theorem yA:(prog.info? 152).map (·.size)=some 73:=by kernel_rfl
theorem Tj:zeroCells152.size=73:=by kernel_rfl
def D1(tag B:Nat)(j:Nat)(v:Value)(w:World):Prop :=
 match j with
 | 0=>iF [] v
 | 1=>v=.int .i64 (tag:Int)
 | 2=>v=.int .u8 (tag:Int)
 | 3=>∃ b,v=.slice (some ⟨b,0,none⟩) 1 1/\w.cell? ⟨b,0,none⟩=some (.int .u8 (tag:Int))
 | 4=>v=.string (toN [tag])
 | 5=>iF [tag] v
 | 6=>∃ g,v=.pointer (some ⟨g,0,none⟩)/\B<=g/\w.heap[g]? = some (.cells zeroCells152 152 (0,0))
 | _=>True
theorem Aw{w w':World}{g:Nat}{o:Obj}(h:w.heap[g]? = some o)(hb:aF w w'):w'.heap[g]? = some o:=by
 refine (hb.block g ?_).trans h;exact Gv
theorem D1.keep{tag B:Nat}(j:Nat)(v:Value)(w w':World)(h:D1 tag B j v w)(hb:aF w w'):D1 tag B j v w':=by
 unfold D1 at h;split at h;all_goals first
  | exact h
  | (obtain⟨b,e,hc⟩:=h;exact⟨b,e,aW hb hc⟩)
  | (obtain⟨g,e,hg,hx⟩:=h;exact⟨g,e,hg,Aw hx hb⟩)
  | (unfold D1;split <;> first | trivial | (exfalso;simp_all;done))
def D2(m:List Nat)(x:aC)(j:Nat)(v:Value)(w:World):Prop :=
 match j with
 | 0=>iF m v
 | 1=>v=.string x
 | 2=>∃ A c,v=.slice A (Sha.wireB (nb x)).length c/\aI w 1 A (Sha.wireB (nb x)).length (b8 (Sha.wireB (nb x)))
 | 3=>v=.string (toN (Sha.wireB (nb x)))
 | 4=>iF (m++Sha.wireB (nb x)) v
 | _=>True
theorem D2.keep{m:List Nat}{x:aC}(j:Nat)(v:Value)(w w':World)(h:D2 m x j v w)(hb:aF w w'):D2 m x j v w':=by
 unfold D2 at h;split at h;all_goals first
  | exact h
  | (obtain⟨A,c,e,hR⟩:=h;exact⟨A,c,e,hR.keep hb⟩)
  | (unfold D2;split <;> first | trivial | (exfalso;simp_all;done))
theorem Gx(s:aC):0<(Sha.wireB (nb s)).length/\(Sha.wireB (nb s)).length<=11+s.size:=by
 unfold Sha.wireB;rw[List.length_append,mF];have:=Sha.vint_len (2*s.size);refine⟨?_,aB⟩;have:0<(Sha.vint (2*s.size)).length:=by
  unfold Sha.vint Sha.vintF;split <;> simp
 omega
def mM(tag:Nat)(ps:List aC)(k:Nat):List Nat:=Sha.input tag ((ps.take k).map nb)
theorem Gy(tag:Nat)(ps:List aC):mM tag ps 0=[tag]:=rfl
theorem Gz(tag:Nat){ps:List aC}{k:Nat}{x:aC}(hx:ps[k]? = some x):mM tag ps (k+1)=mM tag ps k++Sha.wireB (nb x):=by
 unfold mM Sha.input;rw[List.take_add_one,hx];simp
theorem G5(tag:Nat)(ps:List aC)(hs:∀ s∈ps,s.size<=1000000):∀ k,k<=ps.length->(mM tag ps k).length<=1+k*1000011
 | 0,_=>by rw[Gy];simp
 | k+1,hk=>by
  have hx:ps[k]? = some ps[k]:=List.getElem?_eq_getElem aB;have h1:=G5 tag ps hs k aB;have h2:=hs _ (List.getElem_mem (show k<ps.length by omega));have h3:=(Gx ps[k]).2;rw[Gz tag hx,List.length_append,Nat.add_mul];omega
theorem G6(tag:Nat)(ps:List aC):mM tag ps ps.length=Sha.input tag (ps.map nb):=by
 unfold mM;rw[List.take_of_length_le (Nat.le_refl _)]
def Ks2(w:World):Prop:=∃ t fr,w.heap[1]? = some (.cells (w32 Sha.ks).toArray t fr)
theorem Ks2.keep{w w':World}(h:Ks2 w)(hb:aF w w'):Ks2 w':=by
 obtain⟨t,fr,h⟩:=h;refine⟨t,fr,(hb.block _ ?_).trans h⟩;rcases Nat.lt_or_ge 1 w.heap.size with hlt | hge
 ·exact hlt
 ·rw[Array.getElem?_eq_none hge]at h;cases h
theorem Ks2.cell{w:World}(h:Ks2 w){t:Nat}(ht:t<64):w.cell? ⟨1,t,none⟩=some (.int .u32 (Sha.ks.getD t 0:Nat)):=by
 obtain⟨t0,fr,h⟩:=h;rw[cell_of_row w _ t _ t0 _ h,List.getElem?_toArray];exact wu Sha.ks (by rw[Sha.ks_len];exact ht)
def Tm(s u:Sha.St)(i:Nat):List Nat:=(List.zipWith Sha.add32 (stL s) (stL u)).take i++(stL s).drop i
structure SmS(w:World)(M:List Nat)(gm:Nat)(s:Sha.St)(W:World):Prop where
 r:aN W w.heap.size 156 (b8 (List.replicate 32 0))
 s:au W (w.heap.size+1) 148 (stL s)
 p:aI W 1 (some ⟨gm,0,none⟩) M.length (b8 M)
 b:aF w W
theorem SmS.keep{w W W':World}{M:List Nat}{gm:Nat}{s:Sha.St}(h:SmS w M gm s W)(hb:aF W W'):SmS w M gm s W':=⟨h.r.keep hb,h.s.keep hb,h.p.keep hb,aV h.b hb⟩
structure SvS(w:World)(M:List Nat)(gm:Nat)(s:Sha.St)(gw gv:Nat)(S:List Nat)(u:Sha.St)(W:World):Prop where
 m:SmS w M gm s W
 w:au W gw 265 S
 v:au W gv 148 (stL u)
theorem SvS.keep{w W W':World}{M:List Nat}{gm gw gv:Nat}{s u:Sha.St}{S:List Nat}(h:SvS w M gm s gw gv S u W)(hb:aF W W'):SvS w M gm s gw gv S u W':=⟨h.m.keep hb,h.w.keep hb,h.v.keep hb⟩
theorem SmS.lt{w W:World}{M:List Nat}{gm:Nat}{s:Sha.St}(h:SmS w M gm s W)(hM:0<M.length):gm<W.heap.size:=by
 obtain⟨b,o,e,hc⟩:=h.p.2 hM;injection e with e
 injection e with e1 e2
 subst e1;exact bu (hc 0 _ (qL M (k:=0) hM))
structure MxS(w:World)(M:List Nat)(gm:Nat)(s u:Sha.St)(gv i:Nat)(W:World):Prop where
 r:aN W w.heap.size 156 (b8 (List.replicate 32 0))
 s:au W (w.heap.size+1) 148 (Tm s u i)
 p:aI W 1 (some ⟨gm,0,none⟩) M.length (b8 M)
 b:aF w W
 v:au W gv 148 (stL u)
theorem MxS.keep{w W W':World}{M:List Nat}{gm gv i:Nat}{s u:Sha.St}(h:MxS w M gm s u gv i W)(hb:aF W W'):MxS w M gm s u gv i W':=⟨h.r.keep hb,h.s.keep hb,h.p.keep hb,aV h.b hb,h.v.keep hb⟩
theorem uo(l:List Nat):(b8 l).toArray.all (·.oneCell')=true:=by rw[List.all_toArray,List.all_eq_true];exact nC l
def G7(r:Option (List aC))(w:World)(e:Ending)(w':World):Prop :=
 aF w w'/\match r with
  | none=>e=.returned (.tuple #[.slice none 0 0,.bool false])
  | some out=>∃ A c,e=.returned (.tuple #[.slice A out.length c,.bool true])/\aI w' 1 A out.length (out.map .string)/\(∀ a,A=some a->w.heap.size<=a.block)
end Go.Proofs.YtlkbkclnbppigaaGreatDoor
