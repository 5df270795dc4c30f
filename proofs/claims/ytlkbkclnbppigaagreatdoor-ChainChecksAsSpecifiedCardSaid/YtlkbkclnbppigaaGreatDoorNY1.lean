/- A padded message, by the reference. -/
import Derived.Test.YtlkbkclnbppigaaGreatDoorNY0
import Derived.Test.YtlkbkclnbppigaaGreatDoorJZ30
set_option maxHeartbeats 16000000
namespace Go.Proofs.YtlkbkclnbppigaaGreatDoor
open Tryz
open Go.RowKit Go.Sort
set_option linter.unusedVariables false
set_option linter.unusedSimpArgs false
set_option maxRecDepth 100000
theorem aMi(W:World):(Instr.buildSlice 105 0 #[]).run prog W=.ok (.slice (some ⟨W.heap.size,0,none⟩) 0 0) (W.alloc (.cells #[] 5)):=by kernel_rfl
theorem aMj(A:Option Addr)(n c:Nat)(m:List Nat)(w:World)(hR:aH w 1 A n (b8 m))(hn:n<=100000000000):Calls prog 236 #[.slice A n c] w (qF (Sha.pad m) w):=by
 obtain⟨i0,hi,hz0,hz1,hz2⟩:=info_parts uA;have HI:=aB (And.intro hi (And.intro hz0 (And.intro hz1 hz2)));clear hi hz0 hz1 hz2;have hl:m.length=n:=Dp;obtain⟨p,hp⟩:∃ p,p=(119-n % 64) % 64:=⟨_,rfl⟩;have hp2:p<=63:=aA;have hp3:∀ i,i<=p->((n+1+i) % 64=56↔i=p):=by intro i hi;omega
 have hpad:Sha.pad m=(m++128 :: List.replicate p 0)++Sha.bytes8 (8*n):=by
  unfold Sha.pad;rw[hl,<-hp,List.append_assoc];rfl
 obtain⟨V,hV⟩:∃ V,V=Sha.pad m:=⟨_,rfl⟩;rw[<-hV]at hpad ⊢;have hown0:(w.alloc (.cells #[] 5)).ownsRow w.heap.size 5 1 (.slice (some ⟨w.heap.size,0,none⟩) 0 0) 0 []:=World.ownsRow_lit w #[] 0 (Nat.le_refl _) cZ rfl;have hba:Below w.heap.size w (w.alloc (.cells #[] 5)):=(Below.refl _ _).alloc (Nat.le_refl _) _;have ra:=aH.keep hR hba;have HO0:=aB hown0;have HBA:=aB hba;have RA:=aB ra;have HP3:=aB hp3;have HPAD:=aB hpad;have HL:=aB hl;clear hown0 hba ra hR hp hp3 hpad hV hl;go_enter func236,ntmps236;go_upto_region 2 with (first
  | (refine UT rfl _ _ _ rfl #[] rfl _ _ (aMi _) ?_)
  | (at_builtin;refine wL _ rfl _ _ 105 rfl w.heap.size 5 i0 (.int .u8 0) 1 underlying105 HI.out.1 HI.out.2.1 HI.out.2.2.1 HI.out.2.2.2 rfl _ _ _ rfl HO0.out A n c (b8 m) rfl RA.out (mQ _) cZ aA aF ?_;intro v3 wr hown hg3;rw[Nat.zero_add,List.nil_append]at hown;have hbr:Below w.heap.size w wr:=HBA.out.grown hg3 aF (fun r e=>by have e2:w.heap.size=r:=Option.some.inj e;omega);clear hg3 HO0;have hbs:=hbr.size))
 clear RA HBA;go_wp2_with (first
  | (at_builtin;refine wpList_append_own _ rfl _ _ 105 rfl w.heap.size 5 i0 (.int .u8 0) 1 1 underlying105 HI.out.1 HI.out.2.1 HI.out.2.2.1 HI.out.2.2.2 rfl aK _ _ _ rfl (hown.alloc _) ⟨wr.heap.size,0,none⟩ 1 1 [.int .u8 128] rfl rfl (cell_one_new _ _ _) fG cZ aA aJ ?_;intro v' w3 hown1 hgrow1 _;obtain⟨g1,cap1,rfl⟩:=ownsRow_succ hown1;have hb3:Below w.heap.size w w3:=(hbr.alloc aA _).grown hgrow1 aJ (fun r e=>dK hown r e);clear hown hgrow1))
 clear hbr hbs;obtain⟨wo,rfl⟩:∃ wo:World,wo=wr:=⟨_,rfl⟩;have hownA:w3.ownsRow w.heap.size 5 1 (.slice (some ⟨g1,0,none⟩) (n+1+0) cap1) (n+1+0) (b8 (m++128 :: List.replicate 0 0)):=by
  have e:b8 (m++128 :: List.replicate 0 0)=b8 m++[.int .u8 128]:=by rw[oZ];rfl
  rw[e];exact hown1
 go_loopw [3] (fun pv wr=>∃(i:Nat)(A:Option Addr)(c:Nat),i<=p/\pv=.slice A (n+1+i) c/\wr.ownsRow w.heap.size 5 1 (.slice A (n+1+i) c) (n+1+i) (b8 (m++128 :: List.replicate i 0))/\Below w.heap.size w wr) (fun pv _=>match pv with | .slice _ k _=>n+1+p-k | _=>0)
 case atStart=>exact⟨0,_,_,aA,rfl,hownA,hb3⟩
 case round =>
  obtain⟨i,A,c,hi,rfl,hown,hbr⟩:=hrel;clear hownA hown1 hb3;have hbs:=hbr.size;have h56:=HP3.out i hi;by_cases h:i=p
  ·have hc:((n:Int)+1+(p:Int)) % 64=56:=by have:=h56.2 h;omega
   have hpad:m++128 :: List.replicate i 0=(m++128 :: List.replicate p 0)++(Sha.bytes8 (8*n)).take 0:=by rw[h];simp
   have hn1:n+1+i=n+1+p+0:=aA;rw[hpad,hn1]at hown;rw[hn1];clear hpad hn1 h56 h hi;go_wp2_with fail;obtain⟨wo,rfl⟩:∃ wo:World,wo=wr:=⟨_,rfl⟩;go_loopw [3,5] (fun pv jv wr=>∃(j:Nat)(A:Option Addr)(c:Nat),j<=8/\jv=.int .i64 j/\pv=.slice A (n+1+p+j) c/\wr.ownsRow w.heap.size 5 1 (.slice A (n+1+p+j) c) (n+1+p+j) (b8 ((m++128 :: List.replicate p 0)++(Sha.bytes8 (8*n)).take j))/\Below w.heap.size w wr) (fun _ jv _=>8-(intOf jv).toNat)
   case atStart=>exact⟨0,A,c,aA,rfl,rfl,hown,hbr⟩
   case round =>
    clear hbr hown hc;obtain⟨j,A,c,hj,rfl,rfl,hown,hbr⟩:=hrel;have hbs:=hbr.size;by_cases h8:j<8
    ·have hj8:j=0\/j=1\/j=2\/j=3\/j=4\/j=5\/j=6\/j=7:=aA;clear h8 hj;rcases hj8 with rfl | rfl | rfl | rfl | rfl | rfl | rfl | rfl
     ·exact sZ
     ·exact sZ
     ·exact sZ
     ·exact sZ
     ·exact sZ
     ·exact sZ
     ·exact sZ
     ·exact sZ
    ·have hj8:j=8:=aA;have hpt:(m++128 :: List.replicate p 0)++(Sha.bytes8 (8*n)).take j=V:=by rw[HPAD.out,hj8];rfl
     have hVl:V.length=n+1+p+j:=by
      rw[HPAD.out,hj8,List.length_append,List.length_append,List.length_cons,List.length_replicate,NK,HL.out];omega
     rw[hpt]at hown;rw[<-hVl]at hown ⊢;clear hpt;go_wp2_with fail;go_ret;exact⟨A,c,rfl,hown,hbr⟩
  ·have hc:¬ ((n:Int)+1+(i:Int)) % 64=56:=by
    intro e;exact h (h56.1 aA)
   go_wp2_with (first
    | (at_builtin;refine wpList_append_own _ rfl _ _ 105 rfl w.heap.size 5 i0 (.int .u8 0) 1 1 underlying105 HI.out.1 HI.out.2.1 HI.out.2.2.1 HI.out.2.2.2 rfl aK _ _ _ rfl (hown.alloc _) ⟨wr.heap.size,0,none⟩ 1 1 [.int .u8 0] rfl rfl (cell_one_new _ _ _) fG cZ aA aJ ?_;intro v' w3 hown1 hgrow1 _;obtain⟨g1,cap1,rfl⟩:=ownsRow_succ hown1;have hb3:Below w.heap.size w w3:=(hbr.alloc aA _).grown hgrow1 aJ (fun r e=>dK hown r e);clear hown hgrow1))
   have hown2:w3.ownsRow w.heap.size 5 1 (.slice (some ⟨g1,0,none⟩) (n+1+(i+1)) cap1) (n+1+(i+1)) (b8 (m++128 :: List.replicate (i+1) 0)):=by
    have e:b8 (m++128 :: List.replicate (i+1) 0)=b8 (m++128 :: List.replicate i 0)++[.int .u8 0]:=by
     rw[List.replicate_succ',show m++128 :: (List.replicate i 0++[0])=(m++128 :: List.replicate i 0)++[0] by simp,oZ];rfl
    rw[e];exact hown1
   exact⟨⟨i+1,_,_,aA,rfl,hown2,hb3⟩,by show n+1+p-(n+1+i+1)<n+1+p-(n+1+i);omega⟩
theorem aMk(s u:Sha.St){i:Nat}(h:i<=8):(o7 s u i).length=8:=by
 unfold o7 stL;simp;omega
theorem aMl(s u:Sha.St){i:Nat}(h:i<8):(o7 s u i).set i (Sha.add32 ((o7 s u i).getD i 0) ((stL u).getD i 0))=o7 s u (i+1):=by
 have h1:i=0\/i=1\/i=2\/i=3\/i=4\/i=5\/i=6\/i=7:=aA;rcases h1 with rfl | rfl | rfl | rfl | rfl | rfl | rfl | rfl <;> rfl
theorem aMm(s:Sha.St)(b:List Nat):o7 s (Sha.upto b s 64) 8=stL (Sha.comp s b):=by rw[Sha.comp_eq];rfl
theorem aMn{W:World}{gm n k:Nat}{vs:List Value}(h:aH W 1 (some ⟨gm,0,none⟩) n vs)(hk:gm≠k)(ds:Array Value):aH (W.setRow k ds) 1 (some ⟨gm,0,none⟩) n vs:=by
 exact Ve
theorem aMo{W:World}{gm n:Nat}{vs:List Value}(h:aH W 1 (some ⟨gm,0,none⟩) n vs)(q:Addr)(v:Value)(hk:gm≠q.block):aH (W.setCell q v) 1 (some ⟨gm,0,none⟩) n vs:=by
 exact Ve
theorem aMp(a b c d e f g h:Int)(W:World):(Instr.build 148 #[(0,.int .u32 a),(1,.int .u32 b),(2,.int .u32 c),(3,.int .u32 d),(4,.int .u32 e),(5,.int .u32 f),(6,.int .u32 g),(7,.int .u32 h)]).run prog W=.ok (.agg #[.int .u32 a,.int .u32 b,.int .u32 c,.int .u32 d,.int .u32 e,.int .u32 f,.int .u32 g,.int .u32 h]) W:=by kernel_rfl
theorem aMq(q:Nat)(h:q<=1000000000000):wrap64 ((q:Int)+64)=((q+64:Nat):Int):=by
 rw[show (q:Int)+64=((q+64:Nat):Int) by omega];exact IntWalk.wrap64_in _ aA
theorem aMr(m q qe:Nat)(h:q<m)(he:qe=q+64):m-(intOf (.int .i64 (qe:Int))).toNat<m-(intOf (.int .i64 (q:Int))).toNat:=by
 simp[intOf];omega
theorem aMs(B L j q:Nat)(hL:L=64*B)(hm:L<=200000000000)(hj:j<B)(hq:q=64*j):∃ qe,qe=64*(j+1)/\wrap64 ((q:Int)+64)=(qe:Int)/\L-(intOf (.int .i64 (qe:Int))).toNat<L-(intOf (.int .i64 (q:Int))).toNat :=
 ⟨q+64,aA,aMq q aA,aMr L q (q+64) aA rfl⟩
theorem JP:(prog.info? 148).map (·.size)=some 8:=by kernel_rfl
theorem D6(l:List Nat):(w32 l).toArray.all (·.oneCell')=true:=by rw[List.all_toArray,List.all_eq_true];exact yB l
theorem aMt{W:World}{gm q:Nat}{M:List Nat}(h:aH W 1 (some ⟨gm,0,none⟩) M.length (b8 M))(hq:q+64<=M.length):aH W 1 (some ⟨gm,q,none⟩) 64 (b8 ((M.drop q).take 64)):=by
 obtain⟨b,o,e,hc⟩:=h.2 aA;injection e with e
 injection e with e1 e2
 subst e1;subst e2;refine⟨by rw[dH,List.length_take,List.length_drop];omega,fun _=>⟨gm,q,rfl,fun j u hj=>?_⟩⟩;have hj2:j<64:=by
  have:=(List.getElem?_eq_some_iff.1 hj).1;rw[dH,List.length_take]at this;omega
 have:=hc (q+j) u (by
  rw[<-hj];unfold b8;rw[List.getElem?_map,List.getElem?_map,List.getElem?_take_of_lt hj2,List.getElem?_drop])
 rw[Nat.zero_add]at this;exact this
theorem aMu(W:World):(Instr.build 148 #[(0,.int .u32 1779033703),(1,.int .u32 3144134277),(2,.int .u32 1013904242),(3,.int .u32 2773480762),(4,.int .u32 1359893119),(5,.int .u32 2600822924),(6,.int .u32 528734635),(7,.int .u32 1541459225)]).run prog W=.ok (.agg (w32 (stL Sha.st0)).toArray) W:=by kernel_rfl
theorem aMv(A:Option Addr)(n c:Nat)(m:List Nat)(w:World)(hR:aH w 1 A n (b8 m))(hm:∀ x∈m,x<256)(hn:n<=100000000000)(hK:Ks2 w):Calls prog 181 #[.slice A n c] w (Ret w (.agg (b8 (Sha.sum m)).toArray)):=by
 have cP:=fun (W:World) (hb:Below w.heap.size w W)=>aMj A n c m W (hR.keep hb) hn
 have hl:m.length=n:=Dp;obtain⟨M,hM⟩:∃ M,M=Sha.pad m:=⟨_,rfl⟩;have hM64:M.length % 64=0:=by rw[hM];exact Sha.pad_len m
 have hMl:M.length=n+(Sha.padT n).length:=by rw[hM,Sha.pad_eq,List.length_append,hl]
 have hMpos:0<M.length:=by rw[hMl,Sha.padT_len];omega
 have hMmax:M.length<=200000000000:=by rw[hMl,Sha.padT_len];omega
 have hMb:∀ x∈M,x<256:=by
  rw[hM,Sha.pad_eq];intro x hx;rcases List.mem_append.1 hx with h | h
  ·exact hm x h
  ·exact Fg aA x h
 obtain⟨B,hB⟩:∃ B,M.length=64*B:=⟨M.length / 64,aA⟩;obtain⟨R,hR2⟩:∃ R,R=Sha.sum m:=⟨_,rfl⟩;have hRs:R=Sha.out (Sha.blocks B Sha.st0 M):=by
  rw[hR2];unfold Sha.sum;rw[<-hM,hB,Nat.mul_div_cancel_left _ (by decide:0<64)]
 rw[<-hR2];rw[<-hM]at cP;have HP:=aB cP;have HMB:=aB hMb;have HRS:=aB hRs;have HK:=aB hK;have HB:=aB hB;clear cP hR hm hl hM hMb hRs hR2 hK hM64 hMl hB;go_enter func181,ntmps181;go_upto_region 1 with fail
 generalize hw0:World.alloc _ _=w0;have hr0:aI w0 w.heap.size 156 (b8 (List.replicate 32 0)):=Bf;have hb0:Below w.heap.size w w0:=mP;have HS0:=aB (show w0.heap.size=w.heap.size+1 by rw[<-hw0];simp);clear hw0;go_upto_region 2 with (first
  | (refine JM rfl 148 _ rfl _ aC _ (aMu _) ?_)
  | (refine wpList_store_row rfl 148 _ _ rfl w0.heap.size (w32 (stL Sha.st0)).toArray rfl rfl _ (w32 (List.replicate 8 0)).toArray ((heap_alloc_new w0 _).trans rfl) JP rfl (D6 _) ?_))
 generalize hw1:World.setRow _ _ _=w1;have hs1:ah w1 (w.heap.size+1) 148 (stL Sha.st0):=by
  rw[<-hw1,<-HS0.out];exact setRow_heap _ _ _ _ _ _ (heap_alloc_new w0 _)
 have hbb1:Below w0.heap.size w0 w1:=TM;have hr1:=aI.keep hr0 hbb1;have hb1:=aN hb0 hbb1;rw[HS0.out];clear hw1 hbb1 hr0 hb0 HS0;clear w0;go_upto_region 3 with (go_at_call 236;refine (HP.out _ hb1).mono ?_;rintro e w2 ⟨A2,cap,rfl,hown2,hb2⟩)
 obtain⟨gm,cur,rfl,hgm,hcap⟩:∃ gm cur,A2=some ⟨gm,0,none⟩/\w1.heap.size<=gm/\M.length<=cap:=by
  rcases hown2.2 with ⟨e1,e2⟩ | ⟨g,cp,cur,e1,hbg,hh,h1,h2,h3,h4⟩
  ·omega
  ·injection e1 with e1 e2 e3
   exact⟨g,cur,e1,hbg,aA⟩
 have hS0:SmS w M gm (Sha.blocks 0 Sha.st0 M) w2:=⟨aI.keep hr1 hb2,ah.keep hs1 hb2,yM hown2,aN hb1 hb2⟩;have HGNE:=aB (show gm≠w.heap.size+1 by have:=ah.lt hs1;omega);have HS0:=aB hS0;clear hS0 hr1 hs1 hb1 hown2 hb2 hgm cur HP;clear w1;go_wp2_with fail;go_loopw [5] (fun av wr=>∃ j q:Nat,j<=B/\q=64*j/\av=.int .i64 (q:Int)/\Hid (SmS w M gm (Sha.blocks j Sha.st0 M) wr)) (fun av _=>M.length-(intOf av).toNat)
 case atStart=>exact⟨0,0,aA,rfl,rfl,HS0⟩
 case round =>
  obtain⟨j,q,hj,hq,rfl,HS⟩:=hrel;clear HS0;have hbw:=HS.out.b;by_cases hlt:j<B
  ·have hq64:q+64<=M.length:=yD;obtain⟨L,hL⟩:∃ L,L=M.length:=⟨_,rfl⟩;obtain⟨qe,hqe⟩:∃ qe,qe=q+64:=⟨_,rfl⟩;have d1:(q:Int)<(M.length:Int):=aA;have q0:(0:Int)<=(q:Int):=aA;have q1:(qe:Int)<=(cap:Int):=aA;have q2:(q:Int)<=(qe:Int):=aA;have q3:wrap64 ((q:Int)+64)=(qe:Int):=by rw[show (q:Int)+64=(qe:Int) by omega];exact IntWalk.wrap64_in _ aA
   have q4:qe-q=64:=aA;have q5:(0:Int)<=(qe:Int):=aA;have hcomp:Sha.comp (Sha.blocks j Sha.st0 M) ((M.drop q).take 64)=Sha.blocks (j+1) Sha.st0 M:=by rw[Sha.comp_take,Sha.blocks_succ,<-hq]
   have hst:=Sha.blocks_ok j Sha.st0 M Sha.st0_ok;have hup:=aMm (Sha.blocks j Sha.st0 M) ((M.drop q).take 64);have hSl:=Sha.sched_len ((M.drop q).take 64);have hSlt:=fun t=>Sha.sched_lt (b:=(M.drop q).take 64) (fun x hx=>HMB.out x (List.mem_of_mem_drop (List.mem_of_mem_take hx))) t
   have hus:=fun t (h:t<64)=>Sha.upto_succ ((M.drop q).take 64) (Sha.blocks j Sha.st0 M) t h
   have huo:=fun t=>Sha.upto_ok ((M.drop q).take 64) hst t
   have hu0:=Sha.upto_zero ((M.drop q).take 64) (Sha.blocks j Sha.st0 M);rw[hcomp]at hup;have hrd:=aMt HS.out.p hq64;have hwd:=fun W (hb:Below wr.heap.size wr W) (cc:Nat)=>aMf (some ⟨gm,q,none⟩) cc ((M.drop q).take 64) W (hrd.keep hb) (fun x hx=>HMB.out x (List.mem_of_mem_drop (List.mem_of_mem_take hx)))
   have HWD:=aB hwd;clear hrd hwd;generalize Sha.sched ((M.drop q).take 64)=S at *;generalize Sha.upto ((M.drop q).take 64) (Sha.blocks j Sha.st0 M)=U at *;have HUP:=aB hup;have HSL:=aB hSl;have HSLT:=aB hSlt;have HUS:=aB hus;have HUO:=aB huo;have HU0:=aB hu0;have HST:=aB hst;clear hcomp hup hSl hSlt hus huo hu0 hst;have H64:=aB (show (prog.info? 265).map (·.size)=some (w32 S).toArray.size by rw[List.size_toArray,rG,HSL.out];kernel_rfl);have Z64:=aB (show (w32 (List.replicate 64 0)).toArray.size=(w32 S).toArray.size by rw[List.size_toArray,List.size_toArray,rG,rG,HSL.out];rfl);have O64:=aB (D6 S);generalize hsb:Sha.blocks j Sha.st0 M=sb at *;have I8:=aB (show (prog.info? 148).map (·.size)=some (w32 (stL sb)).toArray.size from JP);have Z8:=aB (show (w32 (List.replicate 8 0)).toArray.size=(w32 (stL sb)).toArray.size from rfl);have O8:=aB (D6 (stL sb));clear hL hqe hq64;have HHLT:=aB hlt;have HHJ:=aB hj;have HHQ:=aB hq;clear hlt hj hq hsb;generalize hXW:(w32 S).toArray=XW at *;generalize hXS:(w32 (stL sb)).toArray=XS at *;have HXW:=aB hXW;have HXS:=aB hXS;clear hXW hXS;go_upto_region 7 with (first
    | (go_at_call 237;refine (HWD.out _ (Below.refl _ _) _).mono ?_;rintro e w3 ⟨rfl,hb3⟩)
    | (refine wpList_store_row rfl 265 _ _ rfl w3.heap.size XW rfl rfl _ (w32 (List.replicate 64 0)).toArray ((heap_alloc_new w3 _).trans rfl) H64.out Z64.out O64.out ?_))
   obtain⟨gw,hgw⟩:∃ g,g=w3.heap.size:=⟨_,rfl⟩;rw[<-hgw];generalize hw4:World.setRow _ _ _=w4;have hbb4:Below w3.heap.size w3 w4:=by rw[<-hw4,hgw];exact below_setRow ((Below.refl _ _).alloc (Nat.le_refl _) _) (Nat.le_refl _) _
   have hW4:ah w4 gw 265 S:=by
    rw[<-hw4,hgw,<-HXW.out];exact setRow_heap _ _ _ _ _ _ (heap_alloc_new w3 _)
   have hS4:=(HS.out.keep hb3).keep hbb4;have hgs:w.heap.size+1<gw:=by have:=ah.lt (HS.out.keep hb3).s;omega
   have hgm:gm<gw:=by have:=(HS.out.keep hb3).lt hMpos;omega
   have HW4:=aB hW4;have HS4:=aB hS4;clear hw4 hbb4 hW4 hS4 hgw hb3 q0 q1 q2 q3 q4 q5 d1 hbw HWD;clear w3;have hrow:w4.heap[w.heap.size+1]? = some (.cells XS 148 (0,0)):=by rw[<-HXS.out];exact HS4.out.s
   have HROW:=aB hrow;clear hrow;go_upto_region 8 with (first
    | (refine wpList_load_row rfl _ _ rfl (w.heap.size+1) rfl _ XS (0,0) _ HROW.out underlying148 rfl I8.out ?_)
    | (refine wpList_store_row rfl 148 _ _ rfl w4.heap.size XS rfl rfl _ (w32 (List.replicate 8 0)).toArray ((heap_alloc_new w4 _).trans rfl) I8.out Z8.out O8.out ?_))
   obtain⟨gv,hgv⟩:∃ g,g=w4.heap.size:=⟨_,rfl⟩;rw[<-hgv];generalize hw5:World.setRow _ _ _=w5;have hbb5:Below w4.heap.size w4 w5:=by rw[<-hw5,hgv];exact below_setRow ((Below.refl _ _).alloc (Nat.le_refl _) _) (Nat.le_refl _) _
   have hV5:ah w5 gv 148 (stL (U 0)):=by
    rw[HU0.out,<-hw5,hgv];unfold ah aI;rw[HXS.out];exact setRow_heap _ _ _ _ _ _ (heap_alloc_new w4 _)
   have hgs2:gw<gv:=by have:=ah.lt HW4.out;omega
   have hgne:gm≠w.heap.size+1:=by
    intro e;exact HGNE.out e
   have HS5:=aB (SvS.mk (HS4.out.keep hbb5) (HW4.out.keep hbb5) hV5);clear hw5 hbb5 hV5 hgv HW4 HS4 HS HROW H64 Z64 O64 I8 Z8 O8;clear w4;go_wp2_with fail;go_loopw [8] (fun tv wr=>∃ t:Nat,t<=64/\tv=.int .i64 t/\Hid (SvS w M gm sb gw gv S (U t) wr)) (fun tv _=>64-(intOf tv).toNat)
   case atStart=>exact⟨0,aA,rfl,HS5⟩
   case round =>
    obtain⟨t,ht,rfl,HV⟩:=hrel;clear HS5;by_cases h64:t<64
    ·have hun:=HUS.out t h64;have huo:=HUO.out t;have hlk:=Sha.ks_lt t;have hlw:=HSLT.out t;obtain⟨u,hu⟩:∃ u,u=U t:=⟨_,rfl⟩;rw[<-hu]at hun huo HV;clear hu;obtain⟨va,vb,vc,vd,ve,vf,vg,vh⟩:=u;obtain⟨la,lb,lc,ld,le,lf,lg,lh⟩:=huo;simp only at la lb lc ld le lf lg lh;unfold Sha.round Sha.mix at hun;simp only at hun;have l6:=Sha.rot_lt ve 6 le;have l11:=Sha.rot_lt ve 11 le;have l25:=Sha.rot_lt ve 25 le;have l2:=Sha.rot_lt va 2 la;have l13:=Sha.rot_lt va 13 la;have l22:=Sha.rot_lt va 22 la;have hkc:∀ W,Below w.heap.size w W->W.cell? ⟨1,t,none⟩=some (.int .u32 (Sha.ks.getD t 0:Nat)):=fun W hb=>(HK.out.keep hb).cell h64
     have hwc:∀ W,ah W gw 265 S->W.cell? ⟨gw,t,none⟩=some (.int .u32 (S.getD t 0:Nat)):=fun W h=>h.cell (by rw[HSL.out];exact h64)
     generalize Sha.ks.getD t 0=kt at *;generalize S.getD t 0=wt at *;have HKC:=aB hkc;have HWC:=aB hwc;clear hkc hwc;have R6:=aB (show ∀ W:World,Calls prog 238 #[.int .u32 (ve:Int),.int .i64 6] W (Ret W (.int .u32 (Sha.rot ve 6:Nat))) from fun W=>pU ve 6 W le aA aA);have R11:=aB (show ∀ W:World,Calls prog 238 #[.int .u32 (ve:Int),.int .i64 11] W (Ret W (.int .u32 (Sha.rot ve 11:Nat))) from fun W=>pU ve 11 W le aA aA);have R25:=aB (show ∀ W:World,Calls prog 238 #[.int .u32 (ve:Int),.int .i64 25] W (Ret W (.int .u32 (Sha.rot ve 25:Nat))) from fun W=>pU ve 25 W le aA aA);have R2:=aB (show ∀ W:World,Calls prog 238 #[.int .u32 (va:Int),.int .i64 2] W (Ret W (.int .u32 (Sha.rot va 2:Nat))) from fun W=>pU va 2 W la aA aA);have R13:=aB (show ∀ W:World,Calls prog 238 #[.int .u32 (va:Int),.int .i64 13] W (Ret W (.int .u32 (Sha.rot va 13:Nat))) from fun W=>pU va 13 W la aA aA);have R22:=aB (show ∀ W:World,Calls prog 238 #[.int .u32 (va:Int),.int .i64 22] W (Ret W (.int .u32 (Sha.rot va 22:Nat))) from fun W=>pU va 22 W la aA aA);have X1:=jX (Sha.rot ve 6) (Sha.rot ve 11) l6 l11;have X2:=jX (Sha.rot ve 6 ^^^ Sha.rot ve 11) (Sha.rot ve 25) (Sha.xor_lt l6 l11) l25;have N1:=u32_and_nat ve vf le lf;have X3:bits .xor .u32 (ve:Int) 4294967295=((4294967295-ve:Nat):Int):=by
      have:=u32_xor_nat ve 4294967295 le aK;rw[Nat.xor_comm,LM ve le]at this;exact this
     have N2:=u32_and_nat (4294967295-ve) vg aA lg;have X4:=jX (ve &&& vf) ((4294967295-ve) &&& vg) (Sha.land_lt lf) (Sha.land_lt lg);have Y1:=jX (Sha.rot va 2) (Sha.rot va 13) l2 l13;have Y2:=jX (Sha.rot va 2 ^^^ Sha.rot va 13) (Sha.rot va 22) (Sha.xor_lt l2 l13) l22;have M1:=u32_and_nat va vb la lb;have M2:=u32_and_nat va vc la lc;have M3:=u32_and_nat vb vc lb lc;have Y3:=jX (va &&& vb) (va &&& vc) (Sha.land_lt lb) (Sha.land_lt lc);have Y4:=jX ((va &&& vb) ^^^ (va &&& vc)) (vb &&& vc) (Sha.xor_lt (Sha.land_lt lb) (Sha.land_lt lc)) (Sha.land_lt lc);generalize Sha.rot ve 6=r6 at *;generalize Sha.rot ve 11=r11 at *;generalize Sha.rot ve 25=r25 at *;generalize Sha.rot va 2=r2 at *;generalize Sha.rot va 13=r13 at *;generalize Sha.rot va 22=r22 at *;generalize r6 ^^^ r11=x1 at *;generalize x1 ^^^ r25=s1 at *;generalize ve &&& vf=ef at *;generalize 4294967295-ve=ne at *;generalize ne &&& vg=ng at *;generalize ef ^^^ ng=ch at *;generalize r2 ^^^ r13=y1 at *;generalize y1 ^^^ r22=s0 at *;generalize va &&& vb=ab at *;generalize va &&& vc=ac at *;generalize vb &&& vc=bc at *;generalize ab ^^^ ac=z1 at *;generalize z1 ^^^ bc=mj at *;have A1:=oJ (vh) (s1);have A1m:=uq (vh) (s1);generalize Sha.add32 vh s1=a1 at *;have A2:=oJ (a1) (ch);have A2m:=uq (a1) (ch);generalize Sha.add32 a1 ch=a2 at *;have A3:=oJ (a2) (kt);have A3m:=uq (a2) (kt);generalize Sha.add32 a2 kt=a3 at *;have A4:=oJ (a3) (wt);have A4m:=uq (a3) (wt);generalize Sha.add32 a3 wt=xx at *;have A5:=oJ (s0) (mj);have A5m:=uq (s0) (mj);generalize Sha.add32 s0 mj=yy at *;have A6:=oJ (xx) (yy);have A6m:=uq (xx) (yy);generalize Sha.add32 xx yy=na at *;have A7:=oJ (vd) (xx);have A7m:=uq (vd) (xx);generalize Sha.add32 vd xx=nd at *;have HUN:=aB hun;clear hun la lb lc ld le lf lg lh l6 l11 l25 l2 l13 l22 hlk hlw;have P11:=aB (And.intro X1 (And.intro X2 (And.intro N1 (And.intro X3 (And.intro N2 (And.intro X4 (And.intro A1 (And.intro A1m (And.intro A2 (And.intro A2m (And.intro A3 (And.intro A3m (And.intro A4 (A4m))))))))))))));clear X1 X2 N1 X3 N2 X4 A1 A1m A2 A2m A3 A3m A4 A4m;have P12:=aB (And.intro Y1 (And.intro Y2 (And.intro M1 (And.intro M2 (And.intro M3 (And.intro Y3 (And.intro Y4 (And.intro A5 (A5m)))))))));clear Y1 Y2 M1 M2 M3 Y3 Y4 A5 A5m;have P13:=aB (And.intro A6 (And.intro A6m (And.intro A7 (A7m))));clear A6 A6m A7 A7m;have d1:decide ((t:Int)<64)=true:=decide_eq_true aA;have t0:(0:Int)<=(t:Int):=aA;have t1:(t:Int)<64:=aA;go_upto_region 11 with fail
     clear d1;refine kV 35 aC aC aC (fun i=>[.pointer (some ⟨gv,7,none⟩),.int .u32 vh,.pointer (some ⟨gv,4,none⟩),.int .u32 ve,.int .u32 r6,.pointer (some ⟨gv,4,none⟩),.int .u32 ve,.int .u32 r11,.int .u32 x1,.pointer (some ⟨gv,4,none⟩),.int .u32 ve,.int .u32 r25,.int .u32 s1,.int .u32 a1,.pointer (some ⟨gv,4,none⟩),.int .u32 ve,.pointer (some ⟨gv,5,none⟩),.int .u32 vf,.int .u32 ef,.pointer (some ⟨gv,4,none⟩),.int .u32 ve,.int .u32 ne,.pointer (some ⟨gv,6,none⟩),.int .u32 vg,.int .u32 ng,.int .u32 ch,.int .u32 a2,.int .i64 t,.pointer (some ⟨1,t,none⟩),.int .u32 kt,.int .u32 a3,.int .i64 t,.pointer (some ⟨gw,t,none⟩),.int .u32 wt,.int .u32 xx].getD i undef) (SvS w M gm sb gw gv S ⟨va,vb,vc,vd,ve,vf,vg,vh⟩) (HV.out.keep (Below.drew (Below.refl _ _))) (fun _ _ h hb=>h.keep hb) ?_ ?_
     ·simp only[aX,List.take_succ_cons,List.take_zero,List.drop_succ_cons,List.drop_zero,Act.put,aW,ai];obtain⟨X1,X2,N1,X3,N2,X4,A1,A1m,A2,A2m,A3,A3m,A4,A4m⟩:=P11.out;clear P11;refine⟨fun W hS=>?_,fun W hS=>?_,fun W hS=>?_,fun W hS=>?_,fun W hS=>?_,fun W hS=>?_,fun W hS=>?_,fun W hS=>?_,fun W hS=>?_,fun W hS=>?_,fun W hS=>?_,fun W hS=>?_,fun W hS=>?_,fun W hS=>?_,fun W hS=>?_,fun W hS=>?_,fun W hS=>?_,fun W hS=>?_,fun W hS=>?_,fun W hS=>?_,fun W hS=>?_,fun W hS=>?_,fun W hS=>?_,fun W hS=>?_,fun W hS=>?_,fun W hS=>?_,fun W hS=>?_,fun W hS=>?_,fun W hS=>?_,fun W hS=>?_,fun W hS=>?_,fun W hS=>?_,fun W hS=>?_,fun W hS=>?_,fun W hS=>?_,trivial⟩;all_goals
       have hbw:=hS.m.b;have c0:W.cell? ⟨gv,0,none⟩=some (.int .u32 (va:Int)):=aI.cell hS.v rfl;have c1:W.cell? ⟨gv,1,none⟩=some (.int .u32 (vb:Int)):=aI.cell hS.v rfl;have c2:W.cell? ⟨gv,2,none⟩=some (.int .u32 (vc:Int)):=aI.cell hS.v rfl;have c4:W.cell? ⟨gv,4,none⟩=some (.int .u32 (ve:Int)):=aI.cell hS.v rfl;have c5:W.cell? ⟨gv,5,none⟩=some (.int .u32 (vf:Int)):=aI.cell hS.v rfl;have c6:W.cell? ⟨gv,6,none⟩=some (.int .u32 (vg:Int)):=aI.cell hS.v rfl;have c7:W.cell? ⟨gv,7,none⟩=some (.int .u32 (vh:Int)):=aI.cell hS.v rfl;have ck:=HKC.out _ hbw;have cw:=HWC.out _ hS.w;go_wp2_with (go_at_call 238;(first | (with_reducible refine (R6.out _).mono ?_) | (with_reducible refine (R11.out _).mono ?_) | (with_reducible refine (R25.out _).mono ?_));rintro e w2 ⟨rfl,hb2⟩);exact⟨rfl,rfl,aG⟩
     intro w6 hS6;have HS6:=aB hS6;clear hS6 HV P11 R6 R11 R25 HKC HWC;simp only[aX,List.take_succ_cons,List.take_zero,List.drop_succ_cons,List.drop_zero,Act.put,aW,ai];go_upto_region 12 with fail
     refine kV 29 aC aC aC (fun i=>[.pointer (some ⟨gv,0,none⟩),.int .u32 va,.int .u32 r2,.pointer (some ⟨gv,0,none⟩),.int .u32 va,.int .u32 r13,.int .u32 y1,.pointer (some ⟨gv,0,none⟩),.int .u32 va,.int .u32 r22,.int .u32 s0,.pointer (some ⟨gv,0,none⟩),.int .u32 va,.pointer (some ⟨gv,1,none⟩),.int .u32 vb,.int .u32 ab,.pointer (some ⟨gv,0,none⟩),.int .u32 va,.pointer (some ⟨gv,2,none⟩),.int .u32 vc,.int .u32 ac,.int .u32 z1,.pointer (some ⟨gv,1,none⟩),.int .u32 vb,.pointer (some ⟨gv,2,none⟩),.int .u32 vc,.int .u32 bc,.int .u32 mj,.int .u32 yy].getD i undef) (SvS w M gm sb gw gv S ⟨va,vb,vc,vd,ve,vf,vg,vh⟩) (HS6.out.keep (Below.drew (Below.refl _ _))) (fun _ _ h hb=>h.keep hb) ?_ ?_
     ·simp only[aX,List.take_succ_cons,List.take_zero,List.drop_succ_cons,List.drop_zero,Act.put,aW,ai];obtain⟨Y1,Y2,M1,M2,M3,Y3,Y4,A5,A5m⟩:=P12.out;clear P12;refine⟨fun W hS=>?_,fun W hS=>?_,fun W hS=>?_,fun W hS=>?_,fun W hS=>?_,fun W hS=>?_,fun W hS=>?_,fun W hS=>?_,fun W hS=>?_,fun W hS=>?_,fun W hS=>?_,fun W hS=>?_,fun W hS=>?_,fun W hS=>?_,fun W hS=>?_,fun W hS=>?_,fun W hS=>?_,fun W hS=>?_,fun W hS=>?_,fun W hS=>?_,fun W hS=>?_,fun W hS=>?_,fun W hS=>?_,fun W hS=>?_,fun W hS=>?_,fun W hS=>?_,fun W hS=>?_,fun W hS=>?_,fun W hS=>?_,trivial⟩;all_goals
       have hbw:=hS.m.b;have c0:W.cell? ⟨gv,0,none⟩=some (.int .u32 (va:Int)):=aI.cell hS.v rfl;have c1:W.cell? ⟨gv,1,none⟩=some (.int .u32 (vb:Int)):=aI.cell hS.v rfl;have c2:W.cell? ⟨gv,2,none⟩=some (.int .u32 (vc:Int)):=aI.cell hS.v rfl;have c4:W.cell? ⟨gv,4,none⟩=some (.int .u32 (ve:Int)):=aI.cell hS.v rfl;have c5:W.cell? ⟨gv,5,none⟩=some (.int .u32 (vf:Int)):=aI.cell hS.v rfl;have c6:W.cell? ⟨gv,6,none⟩=some (.int .u32 (vg:Int)):=aI.cell hS.v rfl;have c7:W.cell? ⟨gv,7,none⟩=some (.int .u32 (vh:Int)):=aI.cell hS.v rfl;go_wp2_with (go_at_call 238;(first | (with_reducible refine (R2.out _).mono ?_) | (with_reducible refine (R13.out _).mono ?_) | (with_reducible refine (R22.out _).mono ?_));rintro e w2 ⟨rfl,hb2⟩);exact⟨rfl,rfl,aG⟩
     intro w7 hS7;clear HS6 P12 R2 R13 R22;simp only[aX,List.take_succ_cons,List.take_zero,List.drop_succ_cons,List.drop_zero,Act.put,aW,ai];have HS7:=aB hS7;clear hS7;obtain⟨A6,A6m,A7,A7m⟩:=P13.out;clear P13;have c0:w7.cell? ⟨gv,0,none⟩=some (.int .u32 (va:Int)):=aI.cell HS7.out.v rfl;have c1:w7.cell? ⟨gv,1,none⟩=some (.int .u32 (vb:Int)):=aI.cell HS7.out.v rfl;have c2:w7.cell? ⟨gv,2,none⟩=some (.int .u32 (vc:Int)):=aI.cell HS7.out.v rfl;have c3:w7.cell? ⟨gv,3,none⟩=some (.int .u32 (vd:Int)):=aI.cell HS7.out.v rfl;have c4:w7.cell? ⟨gv,4,none⟩=some (.int .u32 (ve:Int)):=aI.cell HS7.out.v rfl;have c5:w7.cell? ⟨gv,5,none⟩=some (.int .u32 (vf:Int)):=aI.cell HS7.out.v rfl;have c6:w7.cell? ⟨gv,6,none⟩=some (.int .u32 (vg:Int)):=aI.cell HS7.out.v rfl;have HOLD:=aB (show w7.heap[gv]? = some (.cells (w32 (stL ⟨va,vb,vc,vd,ve,vf,vg,vh⟩)).toArray 148 (0,0)) from HS7.out.v);go_upto_region 10 with (first
      | (refine JM rfl 148 _ rfl _ aC _ (aMp na va vb vc nd ve vf vg _) ?_)
      | (refine wpList_store_row rfl 148 _ _ rfl gv #[.int .u32 na,.int .u32 va,.int .u32 vb,.int .u32 vc,.int .u32 nd,.int .u32 ve,.int .u32 vf,.int .u32 vg] rfl rfl _ (w32 (stL ⟨va,vb,vc,vd,ve,vf,vg,vh⟩)).toArray HOLD.out JP rfl (D6 [na,va,vb,vc,nd,ve,vf,vg]) ?_))
     generalize hw8:World.setRow _ _ _=w8;have hV8:SvS w M gm sb gw gv S (U (t+1)) w8:=by
      rw[<-hw8];refine⟨⟨aI.row_far HS7.out.m.r _ _ aA,aI.row_far HS7.out.m.s _ _ aA,aMn HS7.out.m.p aA _,below_setRow HS7.out.m.b aA _⟩,aI.row_far HS7.out.w _ _ aA,?_⟩;rw[HUN.out];exact setRow_heap _ _ _ _ _ _ HOLD.out
     have HV8:=aB hV8;clear hw8 hV8 HOLD c0 c1 c2 c3 c4 c5 c6 A6 A6m A7 A7m HS7 HUN;go_wp2_with fail;exact⟨⟨t+1,aA,aj,HV8⟩,au⟩
    ·have ht64:t=64:=aA;have HM0:Hid (MxS w M gm sb (U 64) gv 0 wr):=aB (by
      have h:=HV.out;rw[ht64]at h;exact⟨h.m.r,h.m.s,h.m.p,h.m.b,h.v⟩)
     have d1:decide ((t:Int)<64)=false:=decide_eq_false aA;have huo:=HUO.out 64;generalize U 64=u at *;generalize (t:Int)=tI at *;clear ht64 h64 ht HV HUS HUO HU0 HSL HSLT;have HUO:=aB huo;clear huo;go_wp2_with fail;clear d1;obtain⟨wo,rfl⟩:∃ wo:World,wo=wr:=⟨_,rfl⟩;go_loopw [11] (fun iv wr=>∃ i:Nat,i<=8/\iv=.int .i64 i/\Hid (MxS w M gm sb u gv i wr)) (fun iv _=>8-(intOf iv).toNat)
     case atStart=>exact⟨0,aA,rfl,HM0⟩
     case round =>
      obtain⟨i,hi,rfl,HX⟩:=hrel;clear HM0;by_cases h8:i<8
      ·have hset:=aMl sb u h8;have c5:Hid (∀ W,MxS w M gm sb u gv i W->W.cell? ⟨w.heap.size+1,i,none⟩=some (.int .u32 ((o7 sb u i).getD i 0:Nat))):=aB fun W h=>h.s.cell (k:=i) (by rw[aMk sb u hi];exact h8)
       have c6:Hid (∀ W,MxS w M gm sb u gv i W->W.cell? ⟨gv,i,none⟩=some (.int .u32 ((stL u).getD i 0:Nat))):=aB fun W h=>h.v.cell (k:=i) h8
       have a1:=oJ ((o7 sb u i).getD i 0) ((stL u).getD i 0);generalize (o7 sb u i).getD i 0=pp at *;generalize (stL u).getD i 0=qq at *;generalize Sha.add32 pp qq=rr at *;have HSET:=aB hset;clear hset;have d2:decide ((i:Int)<8)=true:=decide_eq_true aA;have i0':(0:Int)<=(i:Int):=aA;have i1':(i:Int)<8:=aA;go_upto_region 17 with fail
       obtain⟨wd,hwd⟩:∃ x:World,x=wr.drew:=⟨_,rfl⟩;have HWd:Hid (MxS w M gm sb u gv i wd):=aB (by rw[hwd];exact HX.out.keep (Below.drew (Below.refl _ _)));have HWDr:=aB hwd;clear hwd;have x1:=c5.out _ HWd.out;have x2:=c6.out _ HWd.out;have x3:=HWd.out.s.free i;have hbd:=HWd.out.b;clear c5 c6 HX;refine wp_region_still_tail 9 aC aC ?_;simp only[List.take_succ_cons,List.take_zero,List.drop_succ_cons,List.drop_zero];change wpStill _ _ wr.drew _ _ _;rw[<-HWDr.out];repeat still_step
       refine wpStill_nil ?_;change wpList _ _ _ _ _ wr.drew;rw[<-HWDr.out];go_wp2_with fail;have hn:MxS w M gm sb u gv (i+1) (wd.setCell ⟨w.heap.size+1,i,none⟩ (.int .u32 (rr:Int))):=by
        refine⟨aI.far HWd.out.r _ _ aF,?_,aMo HWd.out.p _ _ ?_,hbd.setCell (p:=⟨w.heap.size+1,i,none⟩) (by show w.heap.size<=w.heap.size+1;omega) _,aI.far HWd.out.v _ _ aJ⟩
        ·have:=HWd.out.s.set_ i rr;rw[HSET.out]at this;exact this
        ·exact hgne
       exact⟨⟨i+1,aA,aj,aB hn⟩,au⟩
      ·have hi8:i=8:=aA;have HN:Hid (SmS w M gm (Sha.blocks (j+1) Sha.st0 M) wr):=aB (by
        have h:=HX.out;rw[hi8]at h;refine⟨h.r,?_,h.p,h.b⟩;rw[<-HUP.out];exact h.s)
       have d2:decide ((i:Int)<8)=false:=decide_eq_false aA;obtain⟨qe,hqe2,hq64,hme⟩:=aMs B M.length j q HB.out hMmax HHLT.out HHQ.out;have HQ64:=aB hq64;have HQE:=aB hqe2;have HME:=aB hme;generalize (i:Int)=iI at *;clear h8 hi hi8 HX HUP hq64 hqe2 hme;have hq64:=HQ64.out;go_wp2_with fail;(try rw[HQ64.out]);exact⟨⟨j+1,qe,by have:=HHLT.out;omega,HQE.out,rfl,HN⟩,HME.out⟩
  ·have hjB:j=B:=aA;have hq2:q=64*B:=by rw[hq,hjB]
   have hs:ah wr (w.heap.size+1) 148 (stL (Sha.blocks B Sha.st0 M)):=by rw[<-hjB];exact HS.out.s
   have hz:aI wr w.heap.size 156 (b8 (fP 32 R 0)):=by rw[show fP 32 R 0=List.replicate 32 0 by simp[fP]];exact HS.out.r
   have hok:=Sha.blocks_ok B Sha.st0 M Sha.st0_ok;have hRo:=HRS.out;generalize Sha.blocks B Sha.st0 M=sf at *;have hRl:R.length=32:=by rw[hRo];rfl
   have hout:∀ i,i<32->R.getD i 0=(Sha.bytes4 ((stL sf).getD (i / 4) 0)).getD (i % 4) 0:=fun i hi=>by
    have:=NI sf (q:=i / 4) (r:=i % 4) aA aA;rw[show 4*(i / 4)+i % 4=i by omega]at this;rw[hRo];exact this
   have hlt5:=NJ hok;have dq:decide ((q:Int)<(M.length:Int))=false:=decide_eq_false yD;have dq2:decide (q<M.length)=false:=decide_eq_false yD;have hgo2:w.heap.size+1<wr.heap.size:=ah.lt hs;have HSF:=aB hs;have HZ:=aB hz;have HOUT:=aB hout;have HRL:=aB hRl;have HLT:=aB hlt5;clear hs hz hok hRo hout hRl hlt5 hlt hjB hq2 HS hq hj;obtain⟨go,hgo⟩:∃ go,go=wr.heap.size:=⟨_,rfl⟩;go_wp2_with fail;rw[<-hgo];have HGO:=aB hgo;have hgo3:w.heap.size+1<go:=aA;clear hgo dq dq2 hgo2;obtain⟨wo,rfl⟩:∃ wo:World,wo=wr:=⟨_,rfl⟩;go_loopw [13] (fun iv wr=>∃ i:Nat,i<=32/\iv=.int .i64 i/\Hid (aI wr go 156 (b8 (fP 32 R i)))/\Hid (ah wr (w.heap.size+1) 148 (stL sf))/\Hid (aI wr w.heap.size 156 (b8 (fP 32 R 0)))/\Below w.heap.size w wr) (fun iv _=>32-(intOf iv).toNat)
   case atStart =>
    refine⟨0,aA,rfl,aB ?_,aB (aI.alloc HSF.out _),aB (aI.alloc HZ.out _),hbw.alloc (by have:=HGO.out;omega) _⟩;rw[HGO.out];exact (heap_alloc_new wo _).trans rfl
   case round =>
    obtain⟨i,hi,rfl,HOr,HBr,HZr,hbr⟩:=hrel;clear HSF HZ hbw;have hgl:go<wr.heap.size:=aI.lt HOr.out;by_cases hi32:i<32
    ·have cst:wr.cell? ⟨w.heap.size+1,i / 4,none⟩=some (.int .u32 ((stL sf).getD (i / 4) 0:Nat)):=aI.cell HBr.out (xw _ (by show i / 4<8;omega));have cou:wr.cell? ⟨go,i,none⟩=some (.int .u8 ((fP 32 R i).getD i 0:Nat)):=aI.cell HOr.out (lT _ (by rw[BU HRL.out hi];exact hi32));have fou:wr.frozen? ⟨go,i,none⟩=false:=aI.free HOr.out i;have hq0:(0:Int)<=(i:Int) / 4:=aA;have hq8:(i:Int) / 4<8:=aA;have hlt5:=HLT.out (i / 4);generalize hy:(stL sf).getD (i / 4) 0=y at *;exact NQ
    ·have h32:i=32:=aA;have hO:wr.heap[go]? = some (.cells (b8 R).toArray 156 (0,0)):=NR;have hi8:(prog.info? 156).map (·.size)=some (b8 R).toArray.size:=by rw[List.size_toArray,dH,HRL.out];kernel_rfl
     have hz8:(b8 (fP 32 R 0)).toArray.size=(b8 R).toArray.size:=NS;have h1:(b8 R).toArray.all (·.oneCell')=true:=by rw[List.all_toArray,List.all_eq_true];exact mQ R
     have HO:=aB hO;have HI8:=aB hi8;have HZ8:=aB hz8;have H18:=aB h1;clear hO hi8 hz8 h1 h32 HOr hi;generalize (b8 R).toArray=Y at *;go_wp2_with (first | (refine wpList_load_row rfl _ _ rfl go rfl _ Y (0,0) _ HO.out underlying156 rfl HI8.out ?_) | (refine wpList_store_row rfl _ _ _ rfl w.heap.size Y rfl rfl _ _ HZr.out HI8.out HZ8.out H18.out ?_));refine bodyPost_ret (v:=.agg Y) ?_ rfl ⟨rfl,?_⟩
     ·exact results_cell_row rfl _ _ w.heap.size _ _ (0,0) _ rfl (setRow_heap _ _ _ _ _ _ HZr.out) underlying156 rfl HI8.out
     ·exact below_setRow hbr (Nat.le_refl _) _
theorem JQ:(prog.info? 51).map (·.size)=some 16:=by kernel_rfl
theorem aMw(W:World):(Instr.build 51 #[]).run prog W=.ok (.agg (b8 (List.replicate 16 0)).toArray) W:=by kernel_rfl
structure ShS(w:World)(R:List Nat)(gh go i:Nat)(W:World):Prop where
 r:aI W w.heap.size 51 (b8 (List.replicate 16 0))
 h:aI W gh 156 (b8 R)
 o:aI W go 51 (b8 (fP 16 (R.take 16) i))
 b:Below w.heap.size w W
theorem aMx(A:Option Addr)(n c:Nat)(m:List Nat)(w:World)(hR:aH w 1 A n (b8 m))(hm:∀ x∈m,x<256)(hn:n<=100000000000)(hK:Ks2 w):Calls prog 122 #[.slice A n c] w (Ret w (.agg (b8 ((Sha.sum m).take 16)).toArray)):=by
 have cS:=fun (W:World) (hb:Below w.heap.size w W)=>aMv A n c m W (hR.keep hb) hm hn (hK.keep hb)
 have hl:(Sha.sum m).length=32:=rfl;generalize Sha.sum m=R at *;have h32:(b8 R).toArray.size=32:=by rw[List.size_toArray,dH,hl]
 have HCS:=aB cS;have HL:=aB hl;have H32:=aB h32;have HI32:=aB (show (prog.info? 156).map (·.size)=some (b8 R).toArray.size by rw[h32];kernel_rfl);have HZ32:=aB (show (b8 (List.replicate 32 0)).toArray.size=(b8 R).toArray.size by rw[h32];rfl);have HO32:=aB (mf R);clear cS hl h32 hR hm hn hK;generalize hX:(b8 R).toArray=X at *;have HX:=aB hX;clear hX;go_enter func122,ntmps122;go_upto_region 1 with fail
 generalize hw0:World.alloc _ _=w0;have hr0:aI w0 w.heap.size 51 (b8 (List.replicate 16 0)):=Bf;have hb0:Below w.heap.size w w0:=mP;clear hw0;go_upto_region 2 with (first
  | (go_at_call 181;refine (HCS.out _ hb0).mono ?_;rintro e w1 ⟨rfl,hb1⟩)
  | (refine wpList_store_row rfl 156 _ _ rfl w1.heap.size X rfl rfl _ (b8 (List.replicate 32 0)).toArray ((heap_alloc_new w1 _).trans rfl) HI32.out HZ32.out HO32.out ?_))
 obtain⟨gh,hgh⟩:∃ g,g=w1.heap.size:=⟨_,rfl⟩;rw[<-hgh];generalize hw2:World.setRow _ _ _=w2;have hbb2:Below w1.heap.size w1 w2:=by rw[<-hw2,hgh];exact below_setRow ((Below.refl _ _).alloc (Nat.le_refl _) _) (Nat.le_refl _) _
 have hh2:aI w2 gh 156 (b8 R):=by
  rw[<-hw2,hgh];unfold aI;rw[HX.out];exact setRow_heap _ _ _ _ _ _ (heap_alloc_new w1 _)
 have hr2:=aI.keep (aI.keep hr0 hb1) hbb2;have hb2:=aN (aN hb0 hb1) hbb2;have hgs:w.heap.size<gh:=by have:=aI.lt (aI.keep hr0 hb1);omega
 clear hw2 hbb2 hr0 hb0 hb1 hgh;clear w1 w0;go_upto_region 3 with (first
  | (refine JM rfl 51 _ rfl _ aC _ (aMw _) ?_)
  | (refine wpList_store_row rfl 51 _ _ rfl w2.heap.size (b8 (List.replicate 16 0)).toArray rfl rfl _ (b8 (List.replicate 16 0)).toArray ((heap_alloc_new w2 _).trans rfl) JQ rfl (mf _) ?_))
 obtain⟨go,hgo⟩:∃ g,g=w2.heap.size:=⟨_,rfl⟩;rw[<-hgo];generalize hw3:World.setRow _ _ _=w3;have hbb3:Below w2.heap.size w2 w3:=by rw[<-hw3,hgo];exact below_setRow ((Below.refl _ _).alloc (Nat.le_refl _) _) (Nat.le_refl _) _
 have hS0:ShS w R gh go 0 w3:=by
  refine⟨aI.keep hr2 hbb3,aI.keep hh2 hbb3,?_,aN hb2 hbb3⟩;rw[<-hw3,hgo,show fP 16 (R.take 16) 0=List.replicate 16 0 by simp[fP]];exact setRow_heap _ _ _ _ _ _ (heap_alloc_new w2 _)
 have hgs2:gh<go:=by have:=aI.lt hh2;omega
 have HS0:=aB hS0;clear hw3 hbb3 hS0 hr2 hh2 hb2 hgo HCS HI32 HZ32 HO32 H32;clear w2;have hR16:(R.take 16).length=16:=by rw[List.length_take,HL.out];rfl
 go_wp2_with fail;go_loopw [5] (fun iv wr=>∃ i:Nat,i<=16/\iv=.int .i64 i/\Hid (ShS w R gh go i wr)) (fun iv _=>16-(intOf iv).toNat)
 case atStart=>exact⟨0,aA,rfl,HS0⟩
 case round =>
  obtain⟨i,hi,rfl,HS⟩:=hrel;clear HS0;have hbw:=HS.out.b;by_cases h16:i<16
  ·have c1:wr.cell? ⟨gh,i,none⟩=some (.int .u8 (R.getD i 0:Nat)):=aI.cell HS.out.h (lT R (by rw[HL.out];omega));have c2:wr.cell? ⟨go,i,none⟩=some (.int .u8 ((fP 16 (R.take 16) i).getD i 0:Nat)):=aI.cell HS.out.o (lT _ (by rw[BU hR16 hi];exact h16));have f2:wr.frozen? ⟨go,i,none⟩=false:=aI.free HS.out.o i;have e1:(R.take 16).getD i 0=R.getD i 0:=Sha.getD_take h16;have hn:∀ W,ShS w R gh go i W->ShS w R gh go (i+1) (W.setCell ⟨go,i,none⟩ (.int .u8 (R.getD i 0:Nat))):=fun W h=>by
    refine⟨aI.far h.r _ _ aJ,aI.far h.h _ _ aJ,?_,h.b.setCell (p:=⟨go,i,none⟩) zn _⟩;have:=aI.set_ h.o i (.int .u8 ((R.getD i 0:Nat):Int));rw[<-e1,<-yT,yS hR16 h16,e1]at this;exact this
   have HN:=aB hn;clear hn e1;generalize R.getD i 0=x at *;go_wp2_with fail;exact⟨⟨i+1,aA,aj,aB (HN.out _ HS.out)⟩,au⟩
  ·have h16':i=16:=aA;have hO:wr.heap[go]? = some (.cells (b8 (R.take 16)).toArray 51 (0,0)):=by have:=HS.out.o;rw[h16',NH hR16]at this;exact this
   have hi8:(prog.info? 51).map (·.size)=some (b8 (R.take 16)).toArray.size:=by rw[List.size_toArray,dH,hR16];exact JQ
   have hz8:(b8 (List.replicate 16 0)).toArray.size=(b8 (R.take 16)).toArray.size:=by rw[List.size_toArray,List.size_toArray,dH,dH,hR16];rfl
   have HO:=aB hO;have HI8:=aB hi8;have HZ8:=aB hz8;have H18:=aB (mf (R.take 16));have HRR:=aB HS.out.r;clear hO hi8 hz8 h16' HS hi;generalize (b8 (R.take 16)).toArray=Y at *;go_wp2_with (first | (refine wpList_load_row rfl _ _ rfl go rfl _ Y (0,0) _ HO.out underlying51 rfl HI8.out ?_) | (refine wpList_store_row rfl _ _ _ rfl w.heap.size Y rfl rfl _ _ HRR.out HI8.out HZ8.out H18.out ?_));refine bodyPost_ret (v:=.agg Y) ?_ rfl ⟨rfl,?_⟩
   ·exact results_cell_row rfl _ _ w.heap.size _ _ (0,0) _ rfl (setRow_heap _ _ _ _ _ _ HRR.out) underlying51 rfl HI8.out
   ·exact below_setRow hbw (Nat.le_refl _) _
theorem Vf(tag:Nat):∀ ps:List ByteArray,(∀ s∈ps,s.size<=1000000)->(Sha.input tag (ps.map nb)).length<=1+ps.length*1000011
 | [],_=>by simp[Sha.input]
 | s :: l,h=>by
  have ih:=Vf tag l (fun x hx=>h x dL);have h1:=(BZ s).2;have h2:=h s aF;unfold Sha.input at ih ⊢;simp only[List.map_cons,List.flatMap_cons,List.length_cons,List.length_append]at ih ⊢;omega
theorem aMy(tag:Nat)(ht:tag<256)(ps:List ByteArray)(hs:∀ s∈ps,s.size<=1000000):∀ x∈Sha.input tag (ps.map nb),x<256:=by
 intro x hx;unfold Sha.input at hx;rcases List.mem_cons.1 hx with h | h
 ·omega
 ·obtain⟨l,hl,hxl⟩:=List.mem_flatMap.1 h;obtain⟨s,hsm,rfl⟩:=List.mem_map.1 hl;exact FT s (by have:=hs s hsm;omega) x hxl
theorem aMz(tag:Nat)(ht:tag<256)(A:Option Addr)(n c:Nat)(ps:List ByteArray)(w:World)(hR:aH w 1 A n (ps.map .string))(hn:n<=10000)(hs:∀ s∈ps,s.size<=1000000):Calls prog 123 #[.int .i64 (tag:Int),.slice A n c] w (qF (Sha.input tag (ps.map nb)) w):=by
 obtain⟨i0,hi,hz0,hz1,hz2⟩:=info_parts uA;have HI:=aB (And.intro hi (And.intro hz0 (And.intro hz1 hz2)));clear hi hz0 hz1 hz2;have hl:ps.length=n:=yZ;have cB:=fun (s:ByteArray) (hm:s∈ps) (W:World)=>aMh s W (by have:=hs s hm;omega)
 have hwl:=fun (s:ByteArray) (hm:s∈ps)=>Nat.le_trans (BZ s).2 (show 11+s.size<=1000011 by have:=hs s hm;omega)
 obtain⟨V,hV⟩:∃ V,V=Sha.input tag (ps.map nb):=⟨_,rfl⟩;have hV0:V=[tag]++(ps.map nb).flatMap Sha.wireB:=hV;rw[<-hV];have ht1:IntKind.u8.wrap (tag:Int)=tag:=IntWalk.u8_in _ aA;have ht2:(tag:Int) % 256=tag:=aA;have HR:=aB hR;have HL:=aB hl;have HB:=aB cB;have HV:=aB hV0;have HW:=aB hwl;clear hR hl cB hV hV0 hs hwl;go_enter func123,ntmps123;go_wp2_with fail;clear ht1 ht2;go_loopw [5,6] (fun pv iv wr=>∃(k:Nat)(acc:List Nat)(B:Option Addr)(d:Nat),k<=n/\iv=.int .i64 k/\pv=.slice B acc.length d/\acc.length<=1+k*1000011/\Hid (V=acc++((ps.drop k).map nb).flatMap Sha.wireB)/\wr.ownsRow w.heap.size 5 1 (.slice B acc.length d) acc.length (b8 acc)/\Below w.heap.size w wr) (fun _ iv _=>n-(intOf iv).toNat)
 case atStart=>exact⟨0,[tag],some ⟨w.heap.size,0,none⟩,1,aA,rfl,rfl,aF,aB (by rw[HV.out];rfl),NL w w.heap.size tag (Nat.le_refl _),(Below.refl _ _).alloc (Nat.le_refl _) _⟩
 case round =>
  obtain⟨k,acc,B,d,hk,rfl,rfl,hak,HVA,hown,hbr⟩:=hrel;obtain⟨q,hq⟩:∃ q,q=acc.length:=⟨_,rfl⟩;rw[<-hq]at hown hak ⊢;by_cases hlt:k<n
  ·obtain⟨s,hsx⟩:∃ s,ps[k]? = some s:=⟨_,List.getElem?_eq_getElem dR⟩;have hsm:=List.mem_of_getElem? hsx;obtain⟨b,o,rfl,hcell⟩:=(HR.out.keep hbr).2 aA;have y0:wr.cell? ⟨b,o+k,none⟩=some (.string s):=hcell k _ (by simp[hsx]);have hd:ps.drop k=s :: ps.drop (k+1):=by
    obtain⟨hl2,rfl⟩:=List.getElem?_eq_some_iff.1 hsx;exact List.drop_eq_getElem_cons hl2
   have hVA:=HVA.out;rw[hd,List.map_cons,List.flatMap_cons,<-List.append_assoc]at hVA;have hby:=HB.out s hsm;have hwl:=HW.out s hsm;generalize Sha.wireB (nb s)=wb at *;obtain⟨p,hp⟩:∃ p,p=wb.length:=⟨_,rfl⟩;unfold qF at hby;rw[<-hp]at hby hwl;have HBY:=aB hby;have HVB:=aB hVA;have HQ:=aB hq;have HPP:=aB hp;have HWL:=aB hwl;have HAK:=aB hak;clear hby hVA hq hp hwl hak hcell hd hsx hsm HVA;have hk0:(0:Int)<=(k:Int):=aA;have hk1:(k:Int)<(n:Int):=aA;have HO:=aB hown;clear hown;go_wp2_with (first
    | (go_at_call 182;refine (HBY.out _).mono ?_;rintro e w2 ⟨A2,c2,rfl,hown2,hb2⟩)
    | (at_builtin;refine wL _ rfl _ _ 105 rfl w.heap.size 5 i0 (.int .u8 0) 1 underlying105 HI.out.1 HI.out.2.1 HI.out.2.2.1 HI.out.2.2.2 rfl _ _ _ rfl (dV HO.out hb2) A2 p c2 (b8 wb) rfl (yM hown2) (mQ _) (by have:=HAK.out;have:=HWL.out;unfold maxLen;omega) (by have:=HAK.out;have:=HWL.out;omega) (by have:=hbr.size;have:=hb2.size;omega) ?_;intro v3 w3 hown3 hg3;obtain⟨B3,d3,rfl⟩:=uB hown3))
   have hl3:(acc++wb).length=q+p:=by rw[List.length_append,HQ.out,HPP.out]
   refine⟨⟨k+1,acc++wb,B3,d3,aA,aj,by rw[hl3],by have:=HAK.out;have:=HWL.out;rw[hl3];omega,aB HVB.out,?_,?_⟩,au⟩
   ·rw[hl3,oZ];exact hown3
   ·exact (aN hbr hb2).grown hg3 (by have:=hbr.size;have:=hb2.size;omega) (fun r e=>dK (dV HO.out hb2) r e)
  ·have hkn:k=n:=aA;have hVe:V=acc:=by
    rw[HVA.out,hkn,List.drop_eq_nil_of_le (by rw[HL.out];exact Nat.le_refl _)];simp
   have hvl:V.length=q:=by rw[hVe,hq]
   have HVE:=aB hVe;have HVL:=aB hvl;have HO:=aB hown;clear hVe hvl hown HVA hq;go_wp2_with fail;go_ret;refine⟨B,d,by rw[HVL.out];rfl,?_,hbr⟩;rw[HVL.out,HVE.out];exact HO.out
theorem Vg(tag:Nat)(ht:tag<256)(A:Option Addr)(n c:Nat)(ps:List ByteArray)(w:World)(hR:aH w 1 A n (ps.map .string))(hn:n<=10000)(hs:∀ s∈ps,s.size<=1000000)(hK:Ks2 w):Calls prog 58 #[.int .i64 (tag:Int),.slice A n c] w (Ret w (.agg (b8 (Sha.ofD tag (ps.map nb))).toArray)):=by
 have hl:ps.length=n:=yZ;have cI:=fun (W:World) (hb:Below w.heap.size w W)=>aMz tag ht A n c ps W (hR.keep hb) hn hs
 have hlen:=Vf tag ps hs;have hlt:=aMy tag ht ps hs;unfold Sha.ofD;generalize Sha.input tag (ps.map nb)=V at *;have hvl:V.length<=100000000000:=by rw[hl]at hlen;omega
 have cS:=fun (B:Option Addr) (d:Nat) (W:World) (hRv:aH W 1 B V.length (b8 V)) (hk:Ks2 W)=>aMx B V.length d V W hRv hlt hvl hk
 have h16:((Sha.sum V).take 16).length=16:=rfl;generalize (Sha.sum V).take 16=D at *;have hi8:(prog.info? 51).map (·.size)=some (b8 D).toArray.size:=by rw[List.size_toArray,dH,h16];exact JQ
 have hz8:(b8 (List.replicate 16 0)).toArray.size=(b8 D).toArray.size:=by rw[List.size_toArray,List.size_toArray,dH,dH,h16];rfl
 have HI8:=aB hi8;have HZ8:=aB hz8;have H18:=aB (mf D);have HCI:=aB cI;have HCS:=aB cS;have HK:=aB hK;clear hi8 hz8 h16 cI cS hlen hlt hvl hl hR hn hs hK;generalize (b8 D).toArray=Y at *;go_enter func58,ntmps58;go_upto_region 1 with fail
 generalize hw0:World.alloc _ _=w0;have hr0:aI w0 w.heap.size 51 (b8 (List.replicate 16 0)):=Bf;have hb0:Below w.heap.size w w0:=mP;clear hw0;go_wp2_with (first
  | (go_at_call 123;refine (HCI.out _ hb0).mono ?_;rintro e w1 ⟨B1,d1,rfl,hown1,hb1⟩)
  | (go_at_call 122;refine (HCS.out _ _ _ (yM hown1) (HK.out.keep (aN hb0 hb1))).mono ?_;rintro e w2 ⟨rfl,hb2⟩)
  | (refine wpList_store_row rfl _ _ _ rfl w.heap.size Y rfl rfl _ _ (aI.keep (aI.keep hr0 hb1) hb2) HI8.out HZ8.out H18.out ?_))
 refine bodyPost_ret (v:=.agg Y) ?_ rfl ⟨rfl,?_⟩
 ·exact results_cell_row rfl _ _ w.heap.size _ _ (0,0) _ rfl (setRow_heap _ _ _ _ _ _ (aI.keep (aI.keep hr0 hb1) hb2)) underlying51 rfl HI8.out
 ·exact below_setRow (aN (aN hb0 hb1) hb2) (Nat.le_refl _) _
theorem aNa(k:aY)(tag:Nat)(ht:tag<256)(A:Option Addr)(n c:Nat)(ps:List ByteArray)(w:World)(hR:aH w 1 A n (ps.map .string))(hn:n<=1000)(hk:k.secret.size<=1000000)(hs:∀ s∈ps,s.size<=1000000)(hK:Ks2 w) :
  Calls prog 69 #[k.val,.int .i64 (tag:Int),.slice A n c] w (Ret w (.agg (b8 (yz k tag ps)).toArray)):=by
 obtain⟨i0,hi0,hz0,hz1,hz2⟩:=info_parts He;have HI:=aB (And.intro hi0 (And.intro hz0 (And.intro hz1 hz2)));clear hi0 hz0 hz1 hz2;have hl:ps.length=n:=vH;have hO:=fun (B:Option Addr) (d:Nat) (W:World) (hr:aH W 1 B (1+n+1) ((k.secret :: ps++[k.secret]).map .string)) (hb:Below w.heap.size w W)=>Vg tag ht B (1+n+1) d (k.secret :: ps++[k.secret]) W hr aA (by
  intro s h;simp only[List.cons_append,List.mem_cons,List.mem_append,List.not_mem_nil,or_false]at h;rcases h with rfl | h | rfl
  ·exact hk
  ·exact hs s h
  ·exact hk) (hK.keep hb)
 show Calls prog 69 _ w (Ret w (.agg (b8 (Sha.ofD tag ((k.secret :: ps++[k.secret]).map nb))).toArray));have hok:=qm tag ((k.secret :: ps++[k.secret]).map nb);have hDS:(b8 (Sha.ofD tag ((k.secret :: ps++[k.secret]).map nb))).toArray.size=16:=by rw[List.size_toArray,dH];exact hok.len
 have hDO:(b8 (Sha.ofD tag ((k.secret :: ps++[k.secret]).map nb))).toArray.all (·.oneCell')=true:=mf _;generalize (b8 (Sha.ofD tag ((k.secret :: ps++[k.secret]).map nb))).toArray=DG at *;have HO:=aB hO;have HDS:=aB hDS;have HDO:=aB hDO;have HDI:=aB (show (prog.info? 30).map (·.size)=some DG.size by rw[hDS];exact lM);clear hO hDS hDO hok hs hK;rw[aY.val_arr];have kc:k.arr[2]? = some (.string k.secret):=rfl;generalize k.arr=X at *;generalize k.secret=sec at *;go_enter func69,ntmps69;go_upto_region 1 with fail
 generalize hw0:World.alloc _ _=w0;obtain⟨ZS,hZS⟩:∃ ZS:Array Value,ZS=(b8 (List.replicate 16 0)).toArray:=⟨_,rfl⟩;have hx:aQ w0 w.heap.size 23 X:=by rw[<-hw0];exact (fJ w _ _).1
 have hz:aQ w0 (w.heap.size+1) 30 ZS:=by rw[<-hw0,hZS];exact (fJ w _ _).2
 have hb0:Below w.heap.size w w0:=mP;have hsz:w.heap.size+2<=w0.heap.size:=uf;have HZS:=aB (show ZS.size=16 by rw[hZS];rfl);have HRA:=aB (hR.keep hb0);have y2:=hx.cell kc;have hzl:=bf y2;have HKC:=aB kc;clear hw0 hZS kc;have hown0:(w0.alloc (.cells #[.string sec] 9)).ownsRow (w.heap.size+2) 9 1 (.slice (some ⟨w0.heap.size,0,none⟩) 1 1) 1 ([sec].map .string) :=
  World.ownsRow_lit (base:=w.heap.size+2) (e:=9) (size:=1) w0 #[.string sec] 1 hsz cZ rfl
 have hra0:=HRA.out.keep (fD w0 (.cells #[.string sec] 9));have hb00:=fD w0 (.cells #[.string sec] 9);have HO0:=aB hown0;have HRA0:=aB hra0;have HB00:=aB hb00;have HX:=aB hx;have HZ:=aB hz;clear hown0 hra0 hb00 HRA hR hx hz;go_upto_region 2 with (at_builtin;refine wL _ rfl _ _ 24 rfl (w.heap.size+2) 9 i0 (.string ⟨#[]⟩) 16 underlying24 HI.out.1 HI.out.2.1 HI.out.2.2.1 HI.out.2.2.2 rfl _ _ _ rfl HO0.out A n c (ps.map .string) rfl HRA0.out (Hf _) cZ aA aJ ?_;intro v1 w1 hown1 hg1;obtain⟨B1,d1,rfl⟩:=uB hown1)
 have hb1:Below (w.heap.size+2) w0 w1:=(Below.mono HB00.out aA).trans (Below.grown (Below.refl _ _) hg1 aJ (fun r e=>dK HO0.out r e));have hs1:=hb1.size;have hx1:aQ w1 w.heap.size 23 X:=(hb1.block _ aA).trans HX.out;have hz1:aQ w1 (w.heap.size+1) 30 ZS:=(hb1.block _ aA).trans HZ.out;have hbw1:Below w.heap.size w w1:=hb0.trans (Below.mono hb1 aA);have hown10:=dV hown1 (fD w1 (.cells #[.string sec] 9));have hra1:=Hq w1 sec w1.heap.size rfl;have y2:=hx1.cell (k:=2) (HKC.out);have hzl:=bf y2;have hsl:(sec :: ps++[sec]).map Value.string=[sec].map .string++ps.map .string++[sec].map .string:=aF;have HO1:=aB hown10;have HR1:=aB hra1;have HB11:=aB (fD w1 (.cells #[.string sec] 9));have HZ1:=aB hz1;have HBW1:=aB hbw1;have HSL:=aB hsl;have HS1:=aB hs1;clear hown10 hra1 hown1 hx1 hz1 hbw1 hb1 HRA0 HO0 HB00 HX HZ hg1 hsl;go_upto_region 3 with (at_builtin;refine wL _ rfl _ _ 24 rfl (w.heap.size+2) 9 i0 (.string ⟨#[]⟩) 16 underlying24 HI.out.1 HI.out.2.1 HI.out.2.2.1 HI.out.2.2.2 rfl _ _ _ rfl HO1.out (some ⟨w1.heap.size,0,none⟩) 1 1 ([sec].map .string) rfl HR1.out (Hf _) cZ aA aJ ?_;intro v3 w3 hown3 hg3;obtain⟨B3,d3,rfl⟩:=uB hown3)
 have hb3:Below (w.heap.size+2) w1 w3:=(Below.mono HB11.out aA).trans (Below.grown (Below.refl _ _) hg3 aJ (fun r e=>dK HO1.out r e));have HZ3:=aB (show aQ w3 (w.heap.size+1) 30 ZS from (hb3.block _ aA).trans HZ1.out);have hbw3:Below w.heap.size w w3:=HBW1.out.trans (Below.mono hb3 aA);have HRV:=aB (show aH w3 1 B3 (1+n+1) ((sec :: ps++[sec]).map .string) by rw[HSL.out];exact aH.of_own hown3);clear hown3 hb3 hg3 HO1 HR1 HB11 HZ1 HBW1 hs1 HS1 y2 hzl;go_wp2_with (first | (go_at_call 58;refine (HO.out _ _ _ HRV.out hbw3).mono ?_;rintro e w2 ⟨rfl,hb2⟩;have hz2:=HZ3.out.keep hb2;have hbw:=aN hbw3 hb2) | (refine wpList_store_row rfl _ _ _ rfl (w.heap.size+1) DG rfl rfl _ ZS hz2 HDI.out Cf HDO.out ?_));exact Rf
end Go.Proofs.YtlkbkclnbppigaaGreatDoor
