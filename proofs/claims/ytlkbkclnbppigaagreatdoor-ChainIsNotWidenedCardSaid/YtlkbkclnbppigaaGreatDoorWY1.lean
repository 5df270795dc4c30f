/- The hash of a message, by the reference: Sum. -/
import Derived.Test.YtlkbkclnbppigaaGreatDoorWY0
import Derived.Test.YtlkbkclnbppigaaGreatDoorIZ30
set_option maxHeartbeats 16000000
namespace Go.Proofs.YtlkbkclnbppigaaGreatDoor
open Tryz
open Go.RowKit Go.Sort
set_option linter.unusedVariables false
set_option linter.unusedSimpArgs false
set_option maxRecDepth 100000
theorem aHf(s u:Sha.St){i:Nat}(h:i<=8):(Tm s u i).length=8:=by
 unfold Tm stL;simp;omega
theorem aHg(s u:Sha.St){i:Nat}(h:i<8):(Tm s u i).set i (Sha.add32 ((Tm s u i).getD i 0) ((stL u).getD i 0))=Tm s u (i+1):=by
 have h1:i=0\/i=1\/i=2\/i=3\/i=4\/i=5\/i=6\/i=7:=aB;rcases h1 with rfl | rfl | rfl | rfl | rfl | rfl | rfl | rfl <;> rfl
theorem aHh(s:Sha.St)(b:List Nat):Tm s (Sha.upto b s 64) 8=stL (Sha.comp s b):=by rw[Sha.comp_eq];rfl
theorem aHi{W:World}{gm n k:Nat}{vs:List Value}(h:aI W 1 (some ⟨gm,0,none⟩) n vs)(hk:gm≠k)(ds:Array Value):aI (W.setRow k ds) 1 (some ⟨gm,0,none⟩) n vs:=by
 exact aEe
theorem aHj{W:World}{gm n:Nat}{vs:List Value}(h:aI W 1 (some ⟨gm,0,none⟩) n vs)(q:Addr)(v:Value)(hk:gm≠q.block):aI (W.setCell q v) 1 (some ⟨gm,0,none⟩) n vs:=by
 exact aEe
theorem aHk(a b c d e f g h:Int)(W:World):(Instr.build 148 #[(0,.int .u32 a),(1,.int .u32 b),(2,.int .u32 c),(3,.int .u32 d),(4,.int .u32 e),(5,.int .u32 f),(6,.int .u32 g),(7,.int .u32 h)]).run prog W=.ok (.agg #[.int .u32 a,.int .u32 b,.int .u32 c,.int .u32 d,.int .u32 e,.int .u32 f,.int .u32 g,.int .u32 h]) W:=by kernel_rfl
theorem aHl(q:Nat)(h:q<=1000000000000):wrap64 ((q:Int)+64)=((q+64:Nat):Int):=by
 rw[show (q:Int)+64=((q+64:Nat):Int) by omega];exact IntWalk.wrap64_in _ aB
theorem aHm(m q qe:Nat)(h:q<m)(he:qe=q+64):m-(intOf (.int .i64 (qe:Int))).toNat<m-(intOf (.int .i64 (q:Int))).toNat:=by
 simp[intOf];omega
theorem aHn(B L j q:Nat)(hL:L=64*B)(hm:L<=200000000000)(hj:j<B)(hq:q=64*j):∃ qe,qe=64*(j+1)/\wrap64 ((q:Int)+64)=(qe:Int)/\L-(intOf (.int .i64 (qe:Int))).toNat<L-(intOf (.int .i64 (q:Int))).toNat :=
 ⟨q+64,aB,aHl q aB,aHm L q (q+64) aB rfl⟩
theorem aDe:(prog.info? 148).map (·.size)=some 8:=by kernel_rfl
theorem aCl(l:List Nat):(w32 l).toArray.all (·.oneCell')=true:=by rw[List.all_toArray,List.all_eq_true];exact uV l
theorem aHo{W:World}{gm q:Nat}{M:List Nat}(h:aI W 1 (some ⟨gm,0,none⟩) M.length (b8 M))(hq:q+64<=M.length):aI W 1 (some ⟨gm,q,none⟩) 64 (b8 ((M.drop q).take 64)):=by
 obtain⟨b,o,e,hc⟩:=h.2 aB;injection e with e
 injection e with e1 e2
 subst e1;subst e2;refine⟨by rw[dU,List.length_take,List.length_drop];omega,fun _=>⟨gm,q,rfl,fun j u hj=>?_⟩⟩;have hj2:j<64:=by
  have:=(List.getElem?_eq_some_iff.1 hj).1;rw[dU,List.length_take]at this;omega
 have:=hc (q+j) u (by
  rw[<-hj];unfold b8;rw[List.getElem?_map,List.getElem?_map,List.getElem?_take_of_lt hj2,List.getElem?_drop])
 rw[Nat.zero_add]at this;exact this
theorem aHp(W:World):(Instr.build 148 #[(0,.int .u32 1779033703),(1,.int .u32 3144134277),(2,.int .u32 1013904242),(3,.int .u32 2773480762),(4,.int .u32 1359893119),(5,.int .u32 2600822924),(6,.int .u32 528734635),(7,.int .u32 1541459225)]).run prog W=.ok (.agg (w32 (stL Sha.st0)).toArray) W:=by kernel_rfl
theorem aHq(A:Option Addr)(n c:Nat)(m:List Nat)(w:World)(hR:aI w 1 A n (b8 m))(hm:∀ x∈m,x<256)(hn:n<=100000000000)(hK:Ks2 w):Calls prog 181 #[.slice A n c] w (Ret w (.agg (b8 (Sha.sum m)).toArray)):=by
 have cP:=fun (W:World) (hb:aF w W)=>aHe A n c m W (hR.keep hb) hn
 have hl:m.length=n:=aDd;obtain⟨M,hM⟩:∃ M,M=Sha.pad m:=⟨_,rfl⟩;have hM64:M.length % 64=0:=by rw[hM];exact Sha.pad_len m
 have hMl:M.length=n+(Sha.padT n).length:=by rw[hM,Sha.pad_eq,List.length_append,hl]
 have hMpos:0<M.length:=by rw[hMl,Sha.padT_len];omega
 have hMmax:M.length<=200000000000:=by rw[hMl,Sha.padT_len];omega
 have hMb:∀ x∈M,x<256:=by
  rw[hM,Sha.pad_eq];intro x hx;rcases List.mem_append.1 hx with h | h
  ·exact hm x h
  ·exact Gu aB x h
 obtain⟨B,hB⟩:∃ B,M.length=64*B:=⟨M.length / 64,aB⟩;obtain⟨R,hR2⟩:∃ R,R=Sha.sum m:=⟨_,rfl⟩;have hRs:R=Sha.out (Sha.blocks B Sha.st0 M):=by
  rw[hR2];unfold Sha.sum;rw[<-hM,hB,Nat.mul_div_cancel_left _ (by decide:0<64)]
 rw[<-hR2];rw[<-hM]at cP;have HP:=aA cP;have HMB:=aA hMb;have HRS:=aA hRs;have HK:=aA hK;have HB:=aA hB;clear cP hR hm hl hM hMb hRs hR2 hK hM64 hMl hB;go_enter func181,ntmps181;go_upto_region 1 with fail
 generalize hw0:World.alloc _ _=w0;have hr0:aN w0 w.heap.size 156 (b8 (List.replicate 32 0)):=aDf;have hb0:aF w w0:=oH;have HS0:=aA (show w0.heap.size=w.heap.size+1 by rw[<-hw0];simp);clear hw0;go_upto_region 2 with (first
  | (refine aCa rfl 148 _ rfl _ aG _ (aHp _) ?_)
  | (refine wpList_store_row rfl 148 _ _ rfl w0.heap.size (w32 (stL Sha.st0)).toArray rfl rfl _ (w32 (List.replicate 8 0)).toArray ((heap_alloc_new w0 _).trans rfl) aDe rfl (aCl _) ?_))
 generalize hw1:World.setRow _ _ _=w1;have hs1:au w1 (w.heap.size+1) 148 (stL Sha.st0):=by
  rw[<-hw1,<-HS0.out];exact setRow_heap _ _ _ _ _ _ (heap_alloc_new w0 _)
 have hbb1:aF w0 w1:=by rw[<-hw1];exact below_setRow ((Below.refl _ _).alloc (Nat.le_refl _) _) (Nat.le_refl _) _
 have hr1:=aN.keep hr0 hbb1;have hb1:=aV hb0 hbb1;rw[HS0.out];clear hw1 hbb1 hr0 hb0 HS0;clear w0;go_upto_region 3 with (go_at_call 236;refine (HP.out _ hb1).mono ?_;rintro e w2 ⟨A2,cap,rfl,hown2,hb2⟩)
 obtain⟨gm,cur,rfl,hgm,hcap⟩:∃ gm cur,A2=some ⟨gm,0,none⟩/\w1.heap.size<=gm/\M.length<=cap:=by
  rcases hown2.2 with ⟨e1,e2⟩ | ⟨g,cp,cur,e1,hbg,hh,h1,h2,h3,h4⟩
  ·omega
  ·injection e1 with e1 e2 e3
   exact⟨g,cur,e1,hbg,aB⟩
 have hS0:SmS w M gm (Sha.blocks 0 Sha.st0 M) w2:=⟨aN.keep hr1 hb2,au.keep hs1 hb2,Gg hown2,aV hb1 hb2⟩;have HGNE:=aA (show gm≠w.heap.size+1 by have:=au.lt hs1;omega);have HS0:=aA hS0;clear hS0 hr1 hs1 hb1 hown2 hb2 hgm cur HP;clear w1;go_wp2_with fail;go_loopw [5] (fun av wr=>∃ j q:Nat,j<=B/\q=64*j/\av=.int .i64 (q:Int)/\Hid (SmS w M gm (Sha.blocks j Sha.st0 M) wr)) (fun av _=>M.length-(intOf av).toNat)
 case atStart=>exact⟨0,0,aB,rfl,rfl,HS0⟩
 case round =>
  obtain⟨j,q,hj,hq,rfl,HS⟩:=hrel;clear HS0;have hbw:=HS.out.b;by_cases hlt:j<B
  ·have hq64:q+64<=M.length:=by have:=HB.out;omega
   obtain⟨L,hL⟩:∃ L,L=M.length:=⟨_,rfl⟩;obtain⟨qe,hqe⟩:∃ qe,qe=q+64:=⟨_,rfl⟩;have d1:(q:Int)<(M.length:Int):=aB;have q0:(0:Int)<=(q:Int):=aB;have q1:(qe:Int)<=(cap:Int):=aB;have q2:(q:Int)<=(qe:Int):=aB;have q3:wrap64 ((q:Int)+64)=(qe:Int):=by rw[show (q:Int)+64=(qe:Int) by omega];exact IntWalk.wrap64_in _ aB
   have q4:qe-q=64:=aB;have q5:(0:Int)<=(qe:Int):=aB;have hcomp:Sha.comp (Sha.blocks j Sha.st0 M) ((M.drop q).take 64)=Sha.blocks (j+1) Sha.st0 M:=by rw[Sha.Ej,Sha.Em,<-hq]
   have hst:=Sha.Eh j Sha.st0 M Sha.Ql;have hup:=aHh (Sha.blocks j Sha.st0 M) ((M.drop q).take 64);have hSl:=Sha.sched_len ((M.drop q).take 64);have hSlt:=fun t=>Sha.sched_lt (b:=(M.drop q).take 64) (fun x hx=>HMB.out x (List.mem_of_mem_drop (List.mem_of_mem_take hx))) t
   have hus:=fun t (h:t<64)=>Sha.upto_succ ((M.drop q).take 64) (Sha.blocks j Sha.st0 M) t h
   have huo:=fun t=>Sha.upto_ok ((M.drop q).take 64) hst t
   have hu0:=Sha.upto_zero ((M.drop q).take 64) (Sha.blocks j Sha.st0 M);rw[hcomp]at hup;have hrd:=aHo HS.out.p hq64;have hwd:=fun W (hb:aF wr W) (cc:Nat)=>aHa (some ⟨gm,q,none⟩) cc ((M.drop q).take 64) W (hrd.keep hb) (fun x hx=>HMB.out x (List.mem_of_mem_drop (List.mem_of_mem_take hx)))
   have HWD:=aA hwd;clear hrd hwd;generalize Sha.sched ((M.drop q).take 64)=S at *;generalize Sha.upto ((M.drop q).take 64) (Sha.blocks j Sha.st0 M)=U at *;have HUP:=aA hup;have HSL:=aA hSl;have HSLT:=aA hSlt;have HUS:=aA hus;have HUO:=aA huo;have HU0:=aA hu0;have HST:=aA hst;clear hcomp hup hSl hSlt hus huo hu0 hst;have H64:=aA (show (prog.info? 265).map (·.size)=some (w32 S).toArray.size by rw[List.size_toArray,uU,HSL.out];kernel_rfl);have Z64:=aA (show (w32 (List.replicate 64 0)).toArray.size=(w32 S).toArray.size by rw[List.size_toArray,List.size_toArray,uU,uU,HSL.out];rfl);have O64:=aA (aCl S);generalize hsb:Sha.blocks j Sha.st0 M=sb at *;have I8zz:=aA (show (prog.info? 148).map (·.size)=some (w32 (stL sb)).toArray.size from aDe);have Z8:=aA (show (w32 (List.replicate 8 0)).toArray.size=(w32 (stL sb)).toArray.size from rfl);have O8zz:=aA (aCl (stL sb));clear hL hqe hq64;have HHLT:=aA hlt;have HHJ:=aA hj;have HHQ:=aA hq;clear hlt hj hq hsb;generalize hXW:(w32 S).toArray=XWzz at *;generalize hXS:(w32 (stL sb)).toArray=XS at *;have HXW:=aA hXW;have HXS:=aA hXS;clear hXW hXS;go_upto_region 7 with (first
    | (go_at_call 237;refine (HWD.out _ (Below.refl _ _) _).mono ?_;rintro e w3 ⟨rfl,hb3⟩)
    | (refine wpList_store_row rfl 265 _ _ rfl w3.heap.size XWzz rfl rfl _ (w32 (List.replicate 64 0)).toArray ((heap_alloc_new w3 _).trans rfl) H64.out Z64.out O64.out ?_))
   obtain⟨gw,hgw⟩:∃ g,g=w3.heap.size:=⟨_,rfl⟩;rw[<-hgw];generalize hw4:World.setRow _ _ _=w4;have hbb4:aF w3 w4:=by rw[<-hw4,hgw];exact below_setRow ((Below.refl _ _).alloc (Nat.le_refl _) _) (Nat.le_refl _) _
   have hW4:au w4 gw 265 S:=by
    rw[<-hw4,hgw,<-HXW.out];exact setRow_heap _ _ _ _ _ _ (heap_alloc_new w3 _)
   have hS4:=(HS.out.keep hb3).keep hbb4;have hgs:w.heap.size+1<gw:=by have:=au.lt (HS.out.keep hb3).s;omega
   have hgm:gm<gw:=by have:=(HS.out.keep hb3).lt hMpos;omega
   have HW4:=aA hW4;have HS4:=aA hS4;clear hw4 hbb4 hW4 hS4 hgw hb3 q0 q1 q2 q3 q4 q5 d1 hbw HWD;clear w3;have hrow:w4.heap[w.heap.size+1]? = some (.cells XS 148 (0,0)):=by rw[<-HXS.out];exact HS4.out.s
   have HROW:=aA hrow;clear hrow;go_upto_region 8 with (first
    | (refine wpList_load_row rfl _ _ rfl (w.heap.size+1) rfl _ XS (0,0) _ HROW.out underlying148 rfl I8zz.out ?_)
    | (refine wpList_store_row rfl 148 _ _ rfl w4.heap.size XS rfl rfl _ (w32 (List.replicate 8 0)).toArray ((heap_alloc_new w4 _).trans rfl) I8zz.out Z8.out O8zz.out ?_))
   obtain⟨gv,hgv⟩:∃ g,g=w4.heap.size:=⟨_,rfl⟩;rw[<-hgv];generalize hw5:World.setRow _ _ _=w5;have hbb5:aF w4 w5:=by rw[<-hw5,hgv];exact below_setRow ((Below.refl _ _).alloc (Nat.le_refl _) _) (Nat.le_refl _) _
   have hV5:au w5 gv 148 (stL (U 0)):=by
    rw[HU0.out,<-hw5,hgv];unfold au aN;rw[HXS.out];exact setRow_heap _ _ _ _ _ _ (heap_alloc_new w4 _)
   have hgs2:gw<gv:=by have:=au.lt HW4.out;omega
   have hgne:gm≠w.heap.size+1:=by
    intro e;exact HGNE.out e
   have HS5:=aA (SvS.mk (HS4.out.keep hbb5) (HW4.out.keep hbb5) hV5);clear hw5 hbb5 hV5 hgv HW4 HS4 HS HROW H64 Z64 O64 I8zz Z8 O8zz;clear w4;go_wp2_with fail;go_loopw [8] (fun tv wr=>∃ t:Nat,t<=64/\tv=.int .i64 t/\Hid (SvS w M gm sb gw gv S (U t) wr)) (fun tv _=>64-(intOf tv).toNat)
   case atStart=>exact⟨0,aB,rfl,HS5⟩
   case round =>
    obtain⟨t,ht,rfl,HV⟩:=hrel;clear HS5;by_cases h64:t<64
    ·have hun:=HUS.out t h64;have huo:=HUO.out t;have hlk:=Sha.ks_lt t;have hlw:=HSLT.out t;obtain⟨u,hu⟩:∃ u,u=U t:=⟨_,rfl⟩;rw[<-hu]at hun huo HV;clear hu;obtain⟨va,vb,vc,vd,ve,vf,vg,vh⟩:=u;obtain⟨la,lb,lc,ld,le,lf,lg,lhzz⟩:=huo;simp only at la lb lc ld le lf lg lhzz;unfold Sha.round Sha.mix at hun;simp only at hun;have l6:=Sha.rot_lt ve 6 le;have l11:=Sha.rot_lt ve 11 le;have l25:=Sha.rot_lt ve 25 le;have l2:=Sha.rot_lt va 2 la;have l13:=Sha.rot_lt va 13 la;have l22:=Sha.rot_lt va 22 la;have hkc:∀ W,aF w W->W.cell? ⟨1,t,none⟩=some (.int .u32 (Sha.ks.getD t 0:Nat)):=fun W hb=>(HK.out.keep hb).cell h64
     have hwc:∀ W,au W gw 265 S->W.cell? ⟨gw,t,none⟩=some (.int .u32 (S.getD t 0:Nat)):=fun W h=>h.cell (by rw[HSL.out];exact h64)
     generalize Sha.ks.getD t 0=kt at *;generalize S.getD t 0=wt at *;have HKC:=aA hkc;have HWC:=aA hwc;clear hkc hwc;have R6:=aA (show ∀ W:World,Calls prog 238 #[.int .u32 (ve:Int),.int .i64 6] W (Ret W (.int .u32 (Sha.rot ve 6:Nat))) from fun W=>VE ve 6 W le aB aB);have R11:=aA (show ∀ W:World,Calls prog 238 #[.int .u32 (ve:Int),.int .i64 11] W (Ret W (.int .u32 (Sha.rot ve 11:Nat))) from fun W=>VE ve 11 W le aB aB);have R25:=aA (show ∀ W:World,Calls prog 238 #[.int .u32 (ve:Int),.int .i64 25] W (Ret W (.int .u32 (Sha.rot ve 25:Nat))) from fun W=>VE ve 25 W le aB aB);have R2:=aA (show ∀ W:World,Calls prog 238 #[.int .u32 (va:Int),.int .i64 2] W (Ret W (.int .u32 (Sha.rot va 2:Nat))) from fun W=>VE va 2 W la aB aB);have R13:=aA (show ∀ W:World,Calls prog 238 #[.int .u32 (va:Int),.int .i64 13] W (Ret W (.int .u32 (Sha.rot va 13:Nat))) from fun W=>VE va 13 W la aB aB);have R22:=aA (show ∀ W:World,Calls prog 238 #[.int .u32 (va:Int),.int .i64 22] W (Ret W (.int .u32 (Sha.rot va 22:Nat))) from fun W=>VE va 22 W la aB aB);have X1:=sU (Sha.rot ve 6) (Sha.rot ve 11) l6 l11;have X2:=sU (Sha.rot ve 6 ^^^ Sha.rot ve 11) (Sha.rot ve 25) (Sha.xor_lt l6 l11) l25;have N1:=u32_and_nat ve vf le lf;have X3:bits .xor .u32 (ve:Int) 4294967295=((4294967295-ve:Nat):Int):=by
      have:=u32_xor_nat ve 4294967295 le aK;rw[Nat.xor_comm,Q8 ve le]at this;exact this
     have N2:=u32_and_nat (4294967295-ve) vg aB lg;have X4:=sU (ve &&& vf) ((4294967295-ve) &&& vg) (Sha.land_lt lf) (Sha.land_lt lg);have Y1:=sU (Sha.rot va 2) (Sha.rot va 13) l2 l13;have Y2:=sU (Sha.rot va 2 ^^^ Sha.rot va 13) (Sha.rot va 22) (Sha.xor_lt l2 l13) l22;have M1:=u32_and_nat va vb la lb;have M2:=u32_and_nat va vc la lc;have M3:=u32_and_nat vb vc lb lc;have Y3:=sU (va &&& vb) (va &&& vc) (Sha.land_lt lb) (Sha.land_lt lc);have Y4:=sU ((va &&& vb) ^^^ (va &&& vc)) (vb &&& vc) (Sha.xor_lt (Sha.land_lt lb) (Sha.land_lt lc)) (Sha.land_lt lc);generalize Sha.rot ve 6=r6 at *;generalize Sha.rot ve 11=r11 at *;generalize Sha.rot ve 25=r25 at *;generalize Sha.rot va 2=r2 at *;generalize Sha.rot va 13=r13 at *;generalize Sha.rot va 22=r22 at *;generalize r6 ^^^ r11=x1 at *;generalize x1 ^^^ r25=s1 at *;generalize ve &&& vf=ef at *;generalize 4294967295-ve=ne at *;generalize ne &&& vg=ngzz at *;generalize ef ^^^ ngzz=ch at *;generalize r2 ^^^ r13=y1 at *;generalize y1 ^^^ r22=s0 at *;generalize va &&& vb=ab at *;generalize va &&& vc=ac at *;generalize vb &&& vc=bc at *;generalize ab ^^^ ac=z1 at *;generalize z1 ^^^ bc=mj at *;have A1:=SI (vh) (s1);have A1m:=aBn (vh) (s1);generalize Sha.add32 vh s1=a1 at *;have A2:=SI (a1) (ch);have A2m:=aBn (a1) (ch);generalize Sha.add32 a1 ch=a2 at *;have A3:=SI (a2) (kt);have A3m:=aBn (a2) (kt);generalize Sha.add32 a2 kt=a3 at *;have A4:=SI (a3) (wt);have A4m:=aBn (a3) (wt);generalize Sha.add32 a3 wt=xx at *;have A5:=SI (s0) (mj);have A5m:=aBn (s0) (mj);generalize Sha.add32 s0 mj=yy at *;have A6:=SI (xx) (yy);have A6m:=aBn (xx) (yy);generalize Sha.add32 xx yy=na at *;have A7:=SI (vd) (xx);have A7m:=aBn (vd) (xx);generalize Sha.add32 vd xx=nd at *;have HUN:=aA hun;clear hun la lb lc ld le lf lg lhzz l6 l11 l25 l2 l13 l22 hlk hlw;have P11:=aA (And.intro X1 (And.intro X2 (And.intro N1 (And.intro X3 (And.intro N2 (And.intro X4 (And.intro A1 (And.intro A1m (And.intro A2 (And.intro A2m (And.intro A3 (And.intro A3m (And.intro A4 (A4m))))))))))))));clear X1 X2 N1 X3 N2 X4 A1 A1m A2 A2m A3 A3m A4 A4m;have P12:=aA (And.intro Y1 (And.intro Y2 (And.intro M1 (And.intro M2 (And.intro M3 (And.intro Y3 (And.intro Y4 (And.intro A5 (A5m)))))))));clear Y1 Y2 M1 M2 M3 Y3 Y4 A5 A5m;have P13:=aA (And.intro A6 (And.intro A6m (And.intro A7 (A7m))));clear A6 A6m A7 A7m;have d1:decide ((t:Int)<64)=true:=decide_eq_true aB;have t0:(0:Int)<=(t:Int):=aB;have t1:(t:Int)<64:=aB;go_upto_region 11 with fail
     clear d1;refine Ec 35 aG aG aG (fun i=>[.pointer (some ⟨gv,7,none⟩),.int .u32 vh,.pointer (some ⟨gv,4,none⟩),.int .u32 ve,.int .u32 r6,.pointer (some ⟨gv,4,none⟩),.int .u32 ve,.int .u32 r11,.int .u32 x1,.pointer (some ⟨gv,4,none⟩),.int .u32 ve,.int .u32 r25,.int .u32 s1,.int .u32 a1,.pointer (some ⟨gv,4,none⟩),.int .u32 ve,.pointer (some ⟨gv,5,none⟩),.int .u32 vf,.int .u32 ef,.pointer (some ⟨gv,4,none⟩),.int .u32 ve,.int .u32 ne,.pointer (some ⟨gv,6,none⟩),.int .u32 vg,.int .u32 ngzz,.int .u32 ch,.int .u32 a2,.int .i64 t,.pointer (some ⟨1,t,none⟩),.int .u32 kt,.int .u32 a3,.int .i64 t,.pointer (some ⟨gw,t,none⟩),.int .u32 wt,.int .u32 xx].getD i undef) (SvS w M gm sb gw gv S ⟨va,vb,vc,vd,ve,vf,vg,vh⟩) (HV.out.keep (Below.drew (Below.refl _ _))) (fun _ _ h hb=>h.keep hb) ?_ ?_
     ·simp only[aZ,kM,Act.put,ag,bV];obtain⟨X1,X2,N1,X3,N2,X4,A1,A1m,A2,A2m,A3,A3m,A4,A4m⟩:=P11.out;clear P11;refine⟨fun W hS=>?_,fun W hS=>?_,fun W hS=>?_,fun W hS=>?_,fun W hS=>?_,fun W hS=>?_,fun W hS=>?_,fun W hS=>?_,fun W hS=>?_,fun W hS=>?_,fun W hS=>?_,fun W hS=>?_,fun W hS=>?_,fun W hS=>?_,fun W hS=>?_,fun W hS=>?_,fun W hS=>?_,fun W hS=>?_,fun W hS=>?_,fun W hS=>?_,fun W hS=>?_,fun W hS=>?_,fun W hS=>?_,fun W hS=>?_,fun W hS=>?_,fun W hS=>?_,fun W hS=>?_,fun W hS=>?_,fun W hS=>?_,fun W hS=>?_,fun W hS=>?_,fun W hS=>?_,fun W hS=>?_,fun W hS=>?_,fun W hS=>?_,trivial⟩;all_goals
       have hbw:=hS.m.b;have c0:W.cell? ⟨gv,0,none⟩=some (.int .u32 (va:Int)):=aN.cell hS.v rfl;have c1:W.cell? ⟨gv,1,none⟩=some (.int .u32 (vb:Int)):=aN.cell hS.v rfl;have c2:W.cell? ⟨gv,2,none⟩=some (.int .u32 (vc:Int)):=aN.cell hS.v rfl;have c4:W.cell? ⟨gv,4,none⟩=some (.int .u32 (ve:Int)):=aN.cell hS.v rfl;have c5:W.cell? ⟨gv,5,none⟩=some (.int .u32 (vf:Int)):=aN.cell hS.v rfl;have c6:W.cell? ⟨gv,6,none⟩=some (.int .u32 (vg:Int)):=aN.cell hS.v rfl;have c7:W.cell? ⟨gv,7,none⟩=some (.int .u32 (vh:Int)):=aN.cell hS.v rfl;have ck:=HKC.out _ hbw;have cw:=HWC.out _ hS.w;go_wp2_with (go_at_call 238;(first | (with_reducible refine (R6.out _).mono ?_) | (with_reducible refine (R11.out _).mono ?_) | (with_reducible refine (R25.out _).mono ?_));rintro e w2 ⟨rfl,hb2⟩);exact⟨rfl,rfl,aJ⟩
     intro w6 hS6;have HS6:=aA hS6;clear hS6 HV P11 R6 R11 R25 HKC HWC;simp only[aZ,kM,Act.put,ag,bV];go_upto_region 12 with fail
     refine Ec 29 aG aG aG (fun i=>[.pointer (some ⟨gv,0,none⟩),.int .u32 va,.int .u32 r2,.pointer (some ⟨gv,0,none⟩),.int .u32 va,.int .u32 r13,.int .u32 y1,.pointer (some ⟨gv,0,none⟩),.int .u32 va,.int .u32 r22,.int .u32 s0,.pointer (some ⟨gv,0,none⟩),.int .u32 va,.pointer (some ⟨gv,1,none⟩),.int .u32 vb,.int .u32 ab,.pointer (some ⟨gv,0,none⟩),.int .u32 va,.pointer (some ⟨gv,2,none⟩),.int .u32 vc,.int .u32 ac,.int .u32 z1,.pointer (some ⟨gv,1,none⟩),.int .u32 vb,.pointer (some ⟨gv,2,none⟩),.int .u32 vc,.int .u32 bc,.int .u32 mj,.int .u32 yy].getD i undef) (SvS w M gm sb gw gv S ⟨va,vb,vc,vd,ve,vf,vg,vh⟩) (HS6.out.keep (Below.drew (Below.refl _ _))) (fun _ _ h hb=>h.keep hb) ?_ ?_
     ·simp only[aZ,kM,Act.put,ag,bV];obtain⟨Y1,Y2,M1,M2,M3,Y3,Y4,A5,A5m⟩:=P12.out;clear P12;refine⟨fun W hS=>?_,fun W hS=>?_,fun W hS=>?_,fun W hS=>?_,fun W hS=>?_,fun W hS=>?_,fun W hS=>?_,fun W hS=>?_,fun W hS=>?_,fun W hS=>?_,fun W hS=>?_,fun W hS=>?_,fun W hS=>?_,fun W hS=>?_,fun W hS=>?_,fun W hS=>?_,fun W hS=>?_,fun W hS=>?_,fun W hS=>?_,fun W hS=>?_,fun W hS=>?_,fun W hS=>?_,fun W hS=>?_,fun W hS=>?_,fun W hS=>?_,fun W hS=>?_,fun W hS=>?_,fun W hS=>?_,fun W hS=>?_,trivial⟩;all_goals
       have hbw:=hS.m.b;have c0:W.cell? ⟨gv,0,none⟩=some (.int .u32 (va:Int)):=aN.cell hS.v rfl;have c1:W.cell? ⟨gv,1,none⟩=some (.int .u32 (vb:Int)):=aN.cell hS.v rfl;have c2:W.cell? ⟨gv,2,none⟩=some (.int .u32 (vc:Int)):=aN.cell hS.v rfl;have c4:W.cell? ⟨gv,4,none⟩=some (.int .u32 (ve:Int)):=aN.cell hS.v rfl;have c5:W.cell? ⟨gv,5,none⟩=some (.int .u32 (vf:Int)):=aN.cell hS.v rfl;have c6:W.cell? ⟨gv,6,none⟩=some (.int .u32 (vg:Int)):=aN.cell hS.v rfl;have c7:W.cell? ⟨gv,7,none⟩=some (.int .u32 (vh:Int)):=aN.cell hS.v rfl;go_wp2_with (go_at_call 238;(first | (with_reducible refine (R2.out _).mono ?_) | (with_reducible refine (R13.out _).mono ?_) | (with_reducible refine (R22.out _).mono ?_));rintro e w2 ⟨rfl,hb2⟩);exact⟨rfl,rfl,aJ⟩
     intro w7 hS7;clear HS6 P12 R2 R13 R22;simp only[aZ,kM,Act.put,ag,bV];have HS7:=aA hS7;clear hS7;obtain⟨A6,A6m,A7,A7m⟩:=P13.out;clear P13;have c0:w7.cell? ⟨gv,0,none⟩=some (.int .u32 (va:Int)):=aN.cell HS7.out.v rfl;have c1:w7.cell? ⟨gv,1,none⟩=some (.int .u32 (vb:Int)):=aN.cell HS7.out.v rfl;have c2:w7.cell? ⟨gv,2,none⟩=some (.int .u32 (vc:Int)):=aN.cell HS7.out.v rfl;have c3:w7.cell? ⟨gv,3,none⟩=some (.int .u32 (vd:Int)):=aN.cell HS7.out.v rfl;have c4:w7.cell? ⟨gv,4,none⟩=some (.int .u32 (ve:Int)):=aN.cell HS7.out.v rfl;have c5:w7.cell? ⟨gv,5,none⟩=some (.int .u32 (vf:Int)):=aN.cell HS7.out.v rfl;have c6:w7.cell? ⟨gv,6,none⟩=some (.int .u32 (vg:Int)):=aN.cell HS7.out.v rfl;have HOLD:=aA (show w7.heap[gv]? = some (.cells (w32 (stL ⟨va,vb,vc,vd,ve,vf,vg,vh⟩)).toArray 148 (0,0)) from HS7.out.v);go_upto_region 10 with (first
      | (refine aCa rfl 148 _ rfl _ aG _ (aHk na va vb vc nd ve vf vg _) ?_)
      | (refine wpList_store_row rfl 148 _ _ rfl gv #[.int .u32 na,.int .u32 va,.int .u32 vb,.int .u32 vc,.int .u32 nd,.int .u32 ve,.int .u32 vf,.int .u32 vg] rfl rfl _ (w32 (stL ⟨va,vb,vc,vd,ve,vf,vg,vh⟩)).toArray HOLD.out aDe rfl (aCl [na,va,vb,vc,nd,ve,vf,vg]) ?_))
     generalize hw8:World.setRow _ _ _=w8;have hV8:SvS w M gm sb gw gv S (U (t+1)) w8:=by
      rw[<-hw8];refine⟨⟨aN.row_far HS7.out.m.r _ _ aB,aN.row_far HS7.out.m.s _ _ aB,aHi HS7.out.m.p aB _,below_setRow HS7.out.m.b aB _⟩,aN.row_far HS7.out.w _ _ aB,?_⟩;rw[HUN.out];exact setRow_heap _ _ _ _ _ _ HOLD.out
     have HV8:=aA hV8;clear hw8 hV8 HOLD c0 c1 c2 c3 c4 c5 c6 A6 A6m A7 A7m HS7 HUN;go_wp2_with fail;exact⟨⟨t+1,aB,bg,HV8⟩,dD⟩
    ·have ht64:t=64:=aB;have HM0:Hid (MxS w M gm sb (U 64) gv 0 wr):=aA (by
      have h:=HV.out;rw[ht64]at h;exact⟨h.m.r,h.m.s,h.m.p,h.m.b,h.v⟩)
     have d1:decide ((t:Int)<64)=false:=decide_eq_false aB;have huo:=HUO.out 64;generalize U 64=u at *;generalize (t:Int)=tI at *;clear ht64 h64 ht HV HUS HUO HU0 HSL HSLT;have HUO:=aA huo;clear huo;go_wp2_with fail;clear d1;obtain⟨wo,rfl⟩:∃ wo:World,wo=wr:=⟨_,rfl⟩;go_loopw [11] (fun iv wr=>∃ i:Nat,i<=8/\iv=.int .i64 i/\Hid (MxS w M gm sb u gv i wr)) (fun iv _=>8-(intOf iv).toNat)
     case atStart=>exact⟨0,aB,rfl,HM0⟩
     case round =>
      obtain⟨i,hi,rfl,HX⟩:=hrel;clear HM0;by_cases h8:i<8
      ·have hset:=aHg sb u h8;have c5:Hid (∀ W,MxS w M gm sb u gv i W->W.cell? ⟨w.heap.size+1,i,none⟩=some (.int .u32 ((Tm sb u i).getD i 0:Nat))):=aA fun W h=>h.s.cell (k:=i) (by rw[aHf sb u hi];exact h8)
       have c6:Hid (∀ W,MxS w M gm sb u gv i W->W.cell? ⟨gv,i,none⟩=some (.int .u32 ((stL u).getD i 0:Nat))):=aA fun W h=>h.v.cell (k:=i) h8
       have a1:=SI ((Tm sb u i).getD i 0) ((stL u).getD i 0);generalize (Tm sb u i).getD i 0=pp at *;generalize (stL u).getD i 0=qq at *;generalize Sha.add32 pp qq=rr at *;have HSET:=aA hset;clear hset;have d2:decide ((i:Int)<8)=true:=decide_eq_true aB;have i0':(0:Int)<=(i:Int):=aB;have i1':(i:Int)<8:=aB;go_upto_region 17 with fail
       obtain⟨wd,hwd⟩:∃ x:World,x=wr.drew:=⟨_,rfl⟩;have HWd:Hid (MxS w M gm sb u gv i wd):=aA (by rw[hwd];exact HX.out.keep (Below.drew (Below.refl _ _)));have HWDr:=aA hwd;clear hwd;have x1:=c5.out _ HWd.out;have x2:=c6.out _ HWd.out;have x3:=HWd.out.s.free i;have hbd:=HWd.out.b;clear c5 c6 HX;refine wp_region_still_tail 9 aG aG ?_;simp only[kM];change wpStill _ _ wr.drew _ _ _;rw[<-HWDr.out];repeat still_step
       refine wpStill_nil ?_;change wpList _ _ _ _ _ wr.drew;rw[<-HWDr.out];go_wp2_with fail;have hn:MxS w M gm sb u gv (i+1) (wd.setCell ⟨w.heap.size+1,i,none⟩ (.int .u32 (rr:Int))):=by
        refine⟨aN.far HWd.out.r _ _ aH,?_,aHj HWd.out.p _ _ ?_,hbd.setCell (p:=⟨w.heap.size+1,i,none⟩) (by show w.heap.size<=w.heap.size+1;omega) _,aN.far HWd.out.v _ _ aP⟩
        ·have:=HWd.out.s.set_ i rr;rw[HSET.out]at this;exact this
        ·exact hgne
       exact⟨⟨i+1,aB,bg,aA hn⟩,dD⟩
      ·have hi8:i=8:=aB;have HN:Hid (SmS w M gm (Sha.blocks (j+1) Sha.st0 M) wr):=aA (by
        have h:=HX.out;rw[hi8]at h;refine⟨h.r,?_,h.p,h.b⟩;rw[<-HUP.out];exact h.s)
       have d2:decide ((i:Int)<8)=false:=decide_eq_false aB;obtain⟨qe,hqe2,hq64,hme⟩:=aHn B M.length j q HB.out hMmax HHLT.out HHQ.out;have HQ64:=aA hq64;have HQE:=aA hqe2;have HME:=aA hme;generalize (i:Int)=iIzz at *;clear h8 hi hi8 HX HUP hq64 hqe2 hme;have hq64:=HQ64.out;go_wp2_with fail;(try rw[HQ64.out]);exact⟨⟨j+1,qe,by have:=HHLT.out;omega,HQE.out,rfl,HN⟩,HME.out⟩
  ·have hjB:j=B:=aB;have hq2:q=64*B:=by rw[hq,hjB]
   have hs:au wr (w.heap.size+1) 148 (stL (Sha.blocks B Sha.st0 M)):=by rw[<-hjB];exact HS.out.s
   have hz:aN wr w.heap.size 156 (b8 (jM 32 R 0)):=by rw[show jM 32 R 0=List.replicate 32 0 by simp[jM]];exact HS.out.r
   have hok:=Sha.Eh B Sha.st0 M Sha.Ql;have hRo:=HRS.out;generalize Sha.blocks B Sha.st0 M=sf at *;have hRl:R.length=32:=by rw[hRo];rfl
   have hout:∀ i,i<32->R.getD i 0=(Sha.bytes4 ((stL sf).getD (i / 4) 0)).getD (i % 4) 0:=fun i hi=>by
    have:=TP sf (q:=i / 4) (r:=i % 4) aB aB;rw[show 4*(i / 4)+i % 4=i by omega]at this;rw[hRo];exact this
   have hlt5:=TQ hok;have dq:decide ((q:Int)<(M.length:Int))=false:=decide_eq_false (by have:=HB.out;omega);have dq2:decide (q<M.length)=false:=decide_eq_false (by have:=HB.out;omega);have hgo2:w.heap.size+1<wr.heap.size:=au.lt hs;have HSF:=aA hs;have HZ:=aA hz;have HOUT:=aA hout;have HRL:=aA hRl;have HLT:=aA hlt5;clear hs hz hok hRo hout hRl hlt5 hlt hjB hq2 HS hq hj;obtain⟨go,hgo⟩:∃ go,go=wr.heap.size:=⟨_,rfl⟩;go_wp2_with fail;rw[<-hgo];have HGO:=aA hgo;have hgo3:w.heap.size+1<go:=aB;clear hgo dq dq2 hgo2;obtain⟨wo,rfl⟩:∃ wo:World,wo=wr:=⟨_,rfl⟩;go_loopw [13] (fun iv wr=>∃ i:Nat,i<=32/\iv=.int .i64 i/\Hid (aN wr go 156 (b8 (jM 32 R i)))/\Hid (au wr (w.heap.size+1) 148 (stL sf))/\Hid (aN wr w.heap.size 156 (b8 (jM 32 R 0)))/\aF w wr) (fun iv _=>32-(intOf iv).toNat)
   case atStart =>
    refine⟨0,aB,rfl,aA ?_,aA (aN.alloc HSF.out _),aA (aN.alloc HZ.out _),hbw.alloc (by have:=HGO.out;omega) _⟩;rw[HGO.out];exact (heap_alloc_new wo _).trans rfl
   case round =>
    obtain⟨i,hi,rfl,HOr,HBr,HZr,hbr⟩:=hrel;clear HSF HZ hbw;have hgl:go<wr.heap.size:=aN.lt HOr.out;by_cases hi32:i<32
    ·have cst:wr.cell? ⟨w.heap.size+1,i / 4,none⟩=some (.int .u32 ((stL sf).getD (i / 4) 0:Nat)):=aN.cell HBr.out (wu _ (by show i / 4<8;omega));have cou:wr.cell? ⟨go,i,none⟩=some (.int .u8 ((jM 32 R i).getD i 0:Nat)):=aN.cell HOr.out (qL _ (by rw[Gt HRL.out hi];exact hi32));have fou:wr.frozen? ⟨go,i,none⟩=false:=aN.free HOr.out i;have hq0:(0:Int)<=(i:Int) / 4:=aB;have hq8:(i:Int) / 4<8:=aB;have hlt5:=HLT.out (i / 4);generalize hy:(stL sf).getD (i / 4) 0=y at *;have hr4:i % 4=0\/i % 4=1\/i % 4=2\/i % 4=3:=aB;have HY:=aA hy;clear hy;rcases hr4 with h4 | h4 | h4 | h4
     ·have hr:(i:Int) % 4=0:=aB;have hval:R.getD i 0=y / 16777216:=xw;go_wp2_with fail;have hcast:(y:Int) / 16777216=((R.getD i 0:Nat):Int):=by rw[hval];simp
      exact xy
     ·have hr:(i:Int) % 4=1:=aB;have hval:R.getD i 0=y / 65536 % 256:=xw;go_wp2_with fail;have hcast:(y:Int) / 65536 % 256=((R.getD i 0:Nat):Int):=by rw[hval];simp
      exact xy
     ·have hr:(i:Int) % 4=2:=aB;have hval:R.getD i 0=y / 256 % 256:=xw;go_wp2_with fail;have hcast:(y:Int) / 256 % 256=((R.getD i 0:Nat):Int):=by rw[hval];simp
      exact xy
     ·have hr:(i:Int) % 4=3:=aB;have hval:R.getD i 0=y % 256:=xw;go_wp2_with fail;have hcast:(y:Int) % 256=((R.getD i 0:Nat):Int):=by rw[hval];simp
      exact xy
    ·have h32:i=32:=aB;have hO:wr.heap[go]? = some (.cells (b8 R).toArray 156 (0,0)):=by have:=HOr.out;rw[h32,TM HRL.out]at this;exact this
     have hi8:(prog.info? 156).map (·.size)=some (b8 R).toArray.size:=by rw[List.size_toArray,dU,HRL.out];kernel_rfl
     have hz8:(b8 (jM 32 R 0)).toArray.size=(b8 R).toArray.size:=by rw[List.size_toArray,List.size_toArray,dU,dU,HRL.out,Gt HRL.out aB]
     have h1:(b8 R).toArray.all (·.oneCell')=true:=by rw[List.all_toArray,List.all_eq_true];exact nC R
     have HO:=aA hO;have HI8:=aA hi8;have HZ8:=aA hz8;have H18:=aA h1;clear hO hi8 hz8 h1 h32 HOr hi;generalize (b8 R).toArray=Y at *;go_wp2_with (first | (refine wpList_load_row rfl _ _ rfl go rfl _ Y (0,0) _ HO.out underlying156 rfl HI8.out ?_) | (refine wpList_store_row rfl _ _ _ rfl w.heap.size Y rfl rfl _ _ HZr.out HI8.out HZ8.out H18.out ?_));refine bodyPost_ret (v:=.agg Y) ?_ rfl ⟨rfl,?_⟩
     ·exact results_cell_row rfl _ _ w.heap.size _ _ (0,0) _ rfl (setRow_heap _ _ _ _ _ _ HZr.out) underlying156 rfl HI8.out
     ·exact below_setRow hbr (Nat.le_refl _) _
theorem aDg:(prog.info? 51).map (·.size)=some 16:=by kernel_rfl
theorem aHr(W:World):(Instr.build 51 #[]).run prog W=.ok (.agg (b8 (List.replicate 16 0)).toArray) W:=by kernel_rfl
structure ShS(w:World)(R:List Nat)(gh go i:Nat)(W:World):Prop where
 r:aN W w.heap.size 51 (b8 (List.replicate 16 0))
 h:aN W gh 156 (b8 R)
 o:aN W go 51 (b8 (jM 16 (R.take 16) i))
 b:aF w W
theorem aHs(A:Option Addr)(n c:Nat)(m:List Nat)(w:World)(hR:aI w 1 A n (b8 m))(hm:∀ x∈m,x<256)(hn:n<=100000000000)(hK:Ks2 w):Calls prog 122 #[.slice A n c] w (Ret w (.agg (b8 ((Sha.sum m).take 16)).toArray)):=by
 have cS:=fun (W:World) (hb:aF w W)=>aHq A n c m W (hR.keep hb) hm hn (hK.keep hb)
 have hl:(Sha.sum m).length=32:=rfl;generalize Sha.sum m=R at *;have h32:(b8 R).toArray.size=32:=by rw[List.size_toArray,dU,hl]
 have HCS:=aA cS;have HL:=aA hl;have H32:=aA h32;have HI32:=aA (show (prog.info? 156).map (·.size)=some (b8 R).toArray.size by rw[h32];kernel_rfl);have HZ32:=aA (show (b8 (List.replicate 32 0)).toArray.size=(b8 R).toArray.size by rw[h32];rfl);have HO32:=aA (uo R);clear cS hl h32 hR hm hn hK;generalize hX:(b8 R).toArray=X at *;have HX:=aA hX;clear hX;go_enter func122,ntmps122;go_upto_region 1 with fail
 generalize hw0:World.alloc _ _=w0;have hr0:aN w0 w.heap.size 51 (b8 (List.replicate 16 0)):=aDf;have hb0:aF w w0:=oH;clear hw0;go_upto_region 2 with (first
  | (go_at_call 181;refine (HCS.out _ hb0).mono ?_;rintro e w1 ⟨rfl,hb1⟩)
  | (refine wpList_store_row rfl 156 _ _ rfl w1.heap.size X rfl rfl _ (b8 (List.replicate 32 0)).toArray ((heap_alloc_new w1 _).trans rfl) HI32.out HZ32.out HO32.out ?_))
 obtain⟨gh,hgh⟩:∃ g,g=w1.heap.size:=⟨_,rfl⟩;rw[<-hgh];generalize hw2:World.setRow _ _ _=w2;have hbb2:aF w1 w2:=by rw[<-hw2,hgh];exact below_setRow ((Below.refl _ _).alloc (Nat.le_refl _) _) (Nat.le_refl _) _
 have hh2:aN w2 gh 156 (b8 R):=by
  rw[<-hw2,hgh];unfold aN;rw[HX.out];exact setRow_heap _ _ _ _ _ _ (heap_alloc_new w1 _)
 have hr2:=aN.keep (aN.keep hr0 hb1) hbb2;have hb2:=aV (aV hb0 hb1) hbb2;have hgs:w.heap.size<gh:=by have:=aN.lt (aN.keep hr0 hb1);omega
 clear hw2 hbb2 hr0 hb0 hb1 hgh;clear w1 w0;go_upto_region 3 with (first
  | (refine aCa rfl 51 _ rfl _ aG _ (aHr _) ?_)
  | (refine wpList_store_row rfl 51 _ _ rfl w2.heap.size (b8 (List.replicate 16 0)).toArray rfl rfl _ (b8 (List.replicate 16 0)).toArray ((heap_alloc_new w2 _).trans rfl) aDg rfl (uo _) ?_))
 obtain⟨go,hgo⟩:∃ g,g=w2.heap.size:=⟨_,rfl⟩;rw[<-hgo];generalize hw3:World.setRow _ _ _=w3;have hbb3:aF w2 w3:=by rw[<-hw3,hgo];exact below_setRow ((Below.refl _ _).alloc (Nat.le_refl _) _) (Nat.le_refl _) _
 have hS0:ShS w R gh go 0 w3:=by
  refine⟨aN.keep hr2 hbb3,aN.keep hh2 hbb3,?_,aV hb2 hbb3⟩;rw[<-hw3,hgo,show jM 16 (R.take 16) 0=List.replicate 16 0 by simp[jM]];exact setRow_heap _ _ _ _ _ _ (heap_alloc_new w2 _)
 have hgs2:gh<go:=by have:=aN.lt hh2;omega
 have HS0:=aA hS0;clear hw3 hbb3 hS0 hr2 hh2 hb2 hgo HCS HI32 HZ32 HO32 H32;clear w2;have hR16:(R.take 16).length=16:=by rw[List.length_take,HL.out];rfl
 go_wp2_with fail;go_loopw [5] (fun iv wr=>∃ i:Nat,i<=16/\iv=.int .i64 i/\Hid (ShS w R gh go i wr)) (fun iv _=>16-(intOf iv).toNat)
 case atStart=>exact⟨0,aB,rfl,HS0⟩
 case round =>
  obtain⟨i,hi,rfl,HS⟩:=hrel;clear HS0;have hbw:=HS.out.b;by_cases h16:i<16
  ·have c1:wr.cell? ⟨gh,i,none⟩=some (.int .u8 (R.getD i 0:Nat)):=aN.cell HS.out.h (qL R (by rw[HL.out];omega));have c2:wr.cell? ⟨go,i,none⟩=some (.int .u8 ((jM 16 (R.take 16) i).getD i 0:Nat)):=aN.cell HS.out.o (qL _ (by rw[Gt hR16 hi];exact h16));have f2:wr.frozen? ⟨go,i,none⟩=false:=aN.free HS.out.o i;have e1:(R.take 16).getD i 0=R.getD i 0:=Sha.getD_take h16;have hn:∀ W,ShS w R gh go i W->ShS w R gh go (i+1) (W.setCell ⟨go,i,none⟩ (.int .u8 (R.getD i 0:Nat))):=fun W h=>by
    refine⟨aN.far h.r _ _ aP,aN.far h.h _ _ aP,?_,h.b.setCell (p:=⟨go,i,none⟩) aAx _⟩;have:=aN.set_ h.o i (.int .u8 ((R.getD i 0:Nat):Int));rw[<-e1,<-TN,TK hR16 h16,e1]at this;exact this
   have HN:=aA hn;clear hn e1;generalize R.getD i 0=x at *;go_wp2_with fail;exact⟨⟨i+1,aB,bg,aA (HN.out _ HS.out)⟩,dD⟩
  ·have h16':i=16:=aB;have hO:wr.heap[go]? = some (.cells (b8 (R.take 16)).toArray 51 (0,0)):=by have:=HS.out.o;rw[h16',TM hR16]at this;exact this
   have hi8:(prog.info? 51).map (·.size)=some (b8 (R.take 16)).toArray.size:=by rw[List.size_toArray,dU,hR16];exact aDg
   have hz8:(b8 (List.replicate 16 0)).toArray.size=(b8 (R.take 16)).toArray.size:=by rw[List.size_toArray,List.size_toArray,dU,dU,hR16];rfl
   have HO:=aA hO;have HI8:=aA hi8;have HZ8:=aA hz8;have H18:=aA (uo (R.take 16));have HRR:=aA HS.out.r;clear hO hi8 hz8 h16' HS hi;generalize (b8 (R.take 16)).toArray=Y at *;go_wp2_with (first | (refine wpList_load_row rfl _ _ rfl go rfl _ Y (0,0) _ HO.out underlying51 rfl HI8.out ?_) | (refine wpList_store_row rfl _ _ _ rfl w.heap.size Y rfl rfl _ _ HRR.out HI8.out HZ8.out H18.out ?_));refine bodyPost_ret (v:=.agg Y) ?_ rfl ⟨rfl,?_⟩
   ·exact results_cell_row rfl _ _ w.heap.size _ _ (0,0) _ rfl (setRow_heap _ _ _ _ _ _ HRR.out) underlying51 rfl HI8.out
   ·exact below_setRow hbw (Nat.le_refl _) _
theorem aEf(tag:Nat):∀ ps:List aC,(∀ s∈ps,s.size<=1000000)->(Sha.input tag (ps.map nb)).length<=1+ps.length*1000011
 | [],_=>by simp[Sha.input]
 | s :: l,h=>by
  have ih:=aEf tag l (fun x hx=>h x gB);have h1:=(Gx s).2;have h2:=h s aH;unfold Sha.input at ih ⊢;simp only[List.map_cons,List.flatMap_cons,List.length_cons,List.length_append]at ih ⊢;omega
theorem aHt(tag:Nat)(ht:tag<256)(ps:List aC)(hs:∀ s∈ps,s.size<=1000000):∀ x∈Sha.input tag (ps.map nb),x<256:=by
 intro x hx;unfold Sha.input at hx;rcases List.mem_cons.1 hx with h | h
 ·omega
 ·obtain⟨l,hl,hxl⟩:=List.mem_flatMap.1 h;obtain⟨s,hsm,rfl⟩:=List.mem_map.1 hl;exact Gh s (by have:=hs s hsm;omega) x hxl
theorem aHu(tag:Nat)(ht:tag<256)(A:Option Addr)(n c:Nat)(ps:List aC)(w:World)(hR:aI w 1 A n (ps.map .string))(hn:n<=10000)(hs:∀ s∈ps,s.size<=1000000):Calls prog 123 #[.int .i64 (tag:Int),.slice A n c] w (Ad (Sha.input tag (ps.map nb)) w):=by
 obtain⟨i0,hi,hz0,hz1,hz2⟩:=info_parts Ae;have HI:=aA (And.intro hi (And.intro hz0 (And.intro hz1 hz2)));clear hi hz0 hz1 hz2;have hl:ps.length=n:=BQ;have cB:=fun (s:aC) (hm:s∈ps) (W:World)=>aHc s W (by have:=hs s hm;omega)
 have hwl:=fun (s:aC) (hm:s∈ps)=>Nat.le_trans (Gx s).2 (show 11+s.size<=1000011 by have:=hs s hm;omega)
 obtain⟨V,hV⟩:∃ V,V=Sha.input tag (ps.map nb):=⟨_,rfl⟩;have hV0:V=[tag]++(ps.map nb).flatMap Sha.wireB:=hV;rw[<-hV];have ht1:IntKind.u8.wrap (tag:Int)=tag:=IntWalk.u8_in _ aB;have ht2:(tag:Int) % 256=tag:=aB;have HR:=aA hR;have HL:=aA hl;have HB:=aA cB;have HV:=aA hV0;have HW:=aA hwl;clear hR hl cB hV hV0 hs hwl;go_enter func123,ntmps123;go_wp2_with fail;clear ht1 ht2;go_loopw [5,6] (fun pv iv wr=>∃(k:Nat)(acc:List Nat)(B:Option Addr)(d:Nat),k<=n/\iv=.int .i64 k/\pv=.slice B acc.length d/\acc.length<=1+k*1000011/\Hid (V=acc++((ps.drop k).map nb).flatMap Sha.wireB)/\wr.ownsRow w.heap.size 5 1 (.slice B acc.length d) acc.length (b8 acc)/\aF w wr) (fun _ iv _=>n-(intOf iv).toNat)
 case atStart=>exact⟨0,[tag],some ⟨w.heap.size,0,none⟩,1,aB,rfl,rfl,aH,aA (by rw[HV.out];rfl),TS w w.heap.size tag (Nat.le_refl _),(Below.refl _ _).alloc (Nat.le_refl _) _⟩
 case round =>
  obtain⟨k,acc,B,d,hk,rfl,rfl,hak,HVA,hown,hbr⟩:=hrel;obtain⟨q,hq⟩:∃ q,q=acc.length:=⟨_,rfl⟩;rw[<-hq]at hown hak ⊢;by_cases hlt:k<n
  ·obtain⟨s,hsx⟩:∃ s,ps[k]? = some s:=⟨_,List.getElem?_eq_getElem gV⟩;have hsm:=List.mem_of_getElem? hsx;obtain⟨b,o,rfl,hcell⟩:=(HR.out.keep hbr).2 aB;have y0:wr.cell? ⟨b,o+k,none⟩=some (.string s):=hcell k _ (by simp[hsx]);have hd:ps.drop k=s :: ps.drop (k+1):=by
    obtain⟨hl2,rfl⟩:=List.getElem?_eq_some_iff.1 hsx;exact List.drop_eq_getElem_cons hl2
   have hVA:=HVA.out;rw[hd,List.map_cons,List.flatMap_cons,<-List.append_assoc]at hVA;have hby:=HB.out s hsm;have hwl:=HW.out s hsm;generalize Sha.wireB (nb s)=wb at *;obtain⟨p,hp⟩:∃ p,p=wb.length:=⟨_,rfl⟩;unfold Ad at hby;rw[<-hp]at hby hwl;have HBY:=aA hby;have HVB:=aA hVA;have HQ:=aA hq;have HPP:=aA hp;have HWL:=aA hwl;have HAK:=aA hak;clear hby hVA hq hp hwl hak hcell hd hsx hsm HVA;have hk0:(0:Int)<=(k:Int):=aB;have hk1:(k:Int)<(n:Int):=aB;have HO:=aA hown;clear hown;go_wp2_with (first
    | (go_at_call 182;refine (HBY.out _).mono ?_;rintro e w2 ⟨A2,c2,rfl,hown2,hb2⟩)
    | (at_builtin;refine XH _ rfl _ _ 105 rfl w.heap.size 5 i0 (.int .u8 0) 1 underlying105 HI.out.1 HI.out.2.1 HI.out.2.2.1 HI.out.2.2.2 rfl _ _ _ rfl (fZ HO.out hb2) A2 p c2 (b8 wb) rfl (Gg hown2) (nC _) (by have:=HAK.out;have:=HWL.out;unfold maxLen;omega) (by have:=HAK.out;have:=HWL.out;omega) (by have:=hbr.size;have:=hb2.size;omega) ?_;intro v3 w3 hown3 hg3;obtain⟨B3,d3,rfl⟩:=Af hown3))
   have hl3:(acc++wb).length=q+p:=by rw[List.length_append,HQ.out,HPP.out]
   refine⟨⟨k+1,acc++wb,B3,d3,aB,bg,by rw[hl3],by have:=HAK.out;have:=HWL.out;rw[hl3];omega,aA HVB.out,?_,?_⟩,dD⟩
   ·rw[hl3,rQ];exact hown3
   ·exact (aV hbr hb2).grown hg3 (by have:=hbr.size;have:=hb2.size;omega) (fun r e=>fE (fZ HO.out hb2) r e)
  ·have hkn:k=n:=aB;have hVe:V=acc:=by
    rw[HVA.out,hkn,List.drop_eq_nil_of_le (by rw[HL.out];exact Nat.le_refl _)];simp
   have hvl:V.length=q:=by rw[hVe,hq]
   have HVE:=aA hVe;have HVL:=aA hvl;have HO:=aA hown;clear hVe hvl hown HVA hq;go_wp2_with fail;go_ret;refine⟨B,d,by rw[HVL.out];rfl,?_,hbr⟩;rw[HVL.out,HVE.out];exact HO.out
theorem aEg(tag:Nat)(ht:tag<256)(A:Option Addr)(n c:Nat)(ps:List aC)(w:World)(hR:aI w 1 A n (ps.map .string))(hn:n<=10000)(hs:∀ s∈ps,s.size<=1000000)(hK:Ks2 w):Calls prog 58 #[.int .i64 (tag:Int),.slice A n c] w (Ret w (.agg (b8 (Sha.ofD tag (ps.map nb))).toArray)):=by
 have hl:ps.length=n:=BQ;have cI:=fun (W:World) (hb:aF w W)=>aHu tag ht A n c ps W (hR.keep hb) hn hs
 have hlen:=aEf tag ps hs;have hlt:=aHt tag ht ps hs;unfold Sha.ofD;generalize Sha.input tag (ps.map nb)=V at *;have hvl:V.length<=100000000000:=by rw[hl]at hlen;omega
 have cS:=fun (B:Option Addr) (d:Nat) (W:World) (hRv:aI W 1 B V.length (b8 V)) (hk:Ks2 W)=>aHs B V.length d V W hRv hlt hvl hk
 have h16:((Sha.sum V).take 16).length=16:=rfl;generalize (Sha.sum V).take 16=D at *;have hi8:(prog.info? 51).map (·.size)=some (b8 D).toArray.size:=by rw[List.size_toArray,dU,h16];exact aDg
 have hz8:(b8 (List.replicate 16 0)).toArray.size=(b8 D).toArray.size:=by rw[List.size_toArray,List.size_toArray,dU,dU,h16];rfl
 have HI8:=aA hi8;have HZ8:=aA hz8;have H18:=aA (uo D);have HCI:=aA cI;have HCS:=aA cS;have HK:=aA hK;clear hi8 hz8 h16 cI cS hlen hlt hvl hl hR hn hs hK;generalize (b8 D).toArray=Y at *;go_enter func58,ntmps58;go_upto_region 1 with fail
 generalize hw0:World.alloc _ _=w0;have hr0:aN w0 w.heap.size 51 (b8 (List.replicate 16 0)):=aDf;have hb0:aF w w0:=oH;clear hw0;go_wp2_with (first
  | (go_at_call 123;refine (HCI.out _ hb0).mono ?_;rintro e w1 ⟨B1,d1,rfl,hown1,hb1⟩)
  | (go_at_call 122;refine (HCS.out _ _ _ (Gg hown1) (HK.out.keep (aV hb0 hb1))).mono ?_;rintro e w2 ⟨rfl,hb2⟩)
  | (refine wpList_store_row rfl _ _ _ rfl w.heap.size Y rfl rfl _ _ (aN.keep (aN.keep hr0 hb1) hb2) HI8.out HZ8.out H18.out ?_))
 refine bodyPost_ret (v:=.agg Y) ?_ rfl ⟨rfl,?_⟩
 ·exact results_cell_row rfl _ _ w.heap.size _ _ (0,0) _ rfl (setRow_heap _ _ _ _ _ _ (aN.keep (aN.keep hr0 hb1) hb2)) underlying51 rfl HI8.out
 ·exact below_setRow (aV (aV hb0 hb1) hb2) (Nat.le_refl _) _
theorem aHv(k:aj)(tag:Nat)(ht:tag<256)(A:Option Addr)(n c:Nat)(ps:List aC)(w:World)(hR:aI w 1 A n (ps.map .string))(hn:n<=1000)(hk:k.secret.size<=1000000)(hs:∀ s∈ps,s.size<=1000000)(hK:Ks2 w) :
  Calls prog 69 #[k.val,.int .i64 (tag:Int),.slice A n c] w (Ret w (.agg (b8 (Bq k tag ps)).toArray)):=by
 obtain⟨i0,hi0,hz0,hz1,hz2⟩:=info_parts LG;have HI:=aA (And.intro hi0 (And.intro hz0 (And.intro hz1 hz2)));clear hi0 hz0 hz1 hz2;have hl:ps.length=n:=zY;have hO:=fun (B:Option Addr) (d:Nat) (W:World) (hr:aI W 1 B (1+n+1) ((k.secret :: ps++[k.secret]).map .string)) (hb:aF w W)=>aEg tag ht B (1+n+1) d (k.secret :: ps++[k.secret]) W hr aB (by
  intro s h;simp only[List.cons_append,List.mem_cons,List.mem_append,List.not_mem_nil,or_false]at h;rcases h with rfl | h | rfl
  ·exact hk
  ·exact hs s h
  ·exact hk) (hK.keep hb)
 show Calls prog 69 _ w (Ret w (.agg (b8 (Sha.ofD tag ((k.secret :: ps++[k.secret]).map nb))).toArray));have hok:=qC tag ((k.secret :: ps++[k.secret]).map nb);have hDS:(b8 (Sha.ofD tag ((k.secret :: ps++[k.secret]).map nb))).toArray.size=16:=by rw[List.size_toArray,dU];exact hok.len
 have hDO:(b8 (Sha.ofD tag ((k.secret :: ps++[k.secret]).map nb))).toArray.all (·.oneCell')=true:=uo _;generalize (b8 (Sha.ofD tag ((k.secret :: ps++[k.secret]).map nb))).toArray=DG at *;have HO:=aA hO;have HDS:=aA hDS;have HDO:=aA hDO;have HDI:=aA (show (prog.info? 30).map (·.size)=some DG.size by rw[hDS];exact lh);clear hO hDS hDO hok hs hK;rw[aj.val_arr];have kc:k.arr[2]? = some (.string k.secret):=rfl;generalize k.arr=X at *;generalize k.secret=sec at *;go_enter func69,ntmps69;go_upto_region 1 with fail
 generalize hw0:World.alloc _ _=w0;obtain⟨ZS,hZS⟩:∃ ZS:Array Value,ZS=(b8 (List.replicate 16 0)).toArray:=⟨_,rfl⟩;have hx:aQ w0 w.heap.size 23 X:=by rw[<-hw0];exact (gQ w _ _).1
 have hz:aQ w0 (w.heap.size+1) 30 ZS:=by rw[<-hw0,hZS];exact (gQ w _ _).2
 have hb0:aF w w0:=oH;have hsz:w.heap.size+2<=w0.heap.size:=vX;have HZS:=aA (show ZS.size=16 by rw[hZS];rfl);have HRA:=aA (hR.keep hb0);have y2:=hx.cell kc;have hzl:=bu y2;have HKC:=aA kc;clear hw0 hZS kc;have hown0:(w0.alloc (.cells #[.string sec] 9)).ownsRow (w.heap.size+2) 9 1 (.slice (some ⟨w0.heap.size,0,none⟩) 1 1) 1 ([sec].map .string) :=
  World.ownsRow_lit (base:=w.heap.size+2) (e:=9) (size:=1) w0 #[.string sec] 1 hsz dh rfl
 have hra0:=HRA.out.keep (fJ w0 (.cells #[.string sec] 9));have hb00:=fJ w0 (.cells #[.string sec] 9);have HO0:=aA hown0;have HRA0:=aA hra0;have HB00:=aA hb00;have HX:=aA hx;have HZ:=aA hz;clear hown0 hra0 hb00 HRA hR hx hz;go_upto_region 2 with (at_builtin;refine XH _ rfl _ _ 24 rfl (w.heap.size+2) 9 i0 (.string ⟨#[]⟩) 16 underlying24 HI.out.1 HI.out.2.1 HI.out.2.2.1 HI.out.2.2.2 rfl _ _ _ rfl HO0.out A n c (ps.map .string) rfl HRA0.out (XB _) dh aB aP ?_;intro v1 w1 hown1 hg1;obtain⟨B1,d1,rfl⟩:=Af hown1)
 have hb1:Below (w.heap.size+2) w0 w1:=(Below.mono HB00.out aB).trans (Below.grown (Below.refl _ _) hg1 aP (fun r e=>fE HO0.out r e));have hs1:=hb1.size;have hx1:aQ w1 w.heap.size 23 X:=(hb1.block _ aB).trans HX.out;have hz1:aQ w1 (w.heap.size+1) 30 ZS:=(hb1.block _ aB).trans HZ.out;have hbw1:aF w w1:=hb0.trans (Below.mono hb1 aB);have hown10:=fZ hown1 (fJ w1 (.cells #[.string sec] 9));have hra1:=MF w1 sec w1.heap.size rfl;have y2:=hx1.cell (k:=2) (HKC.out);have hzl:=bu y2;have hsl:(sec :: ps++[sec]).map Value.string=[sec].map .string++ps.map .string++[sec].map .string:=aH;have HO1:=aA hown10;have HR1:=aA hra1;have HB11:=aA (fJ w1 (.cells #[.string sec] 9));have HZ1:=aA hz1;have HBW1:=aA hbw1;have HSL:=aA hsl;have HS1:=aA hs1;clear hown10 hra1 hown1 hx1 hz1 hbw1 hb1 HRA0 HO0 HB00 HX HZ hg1 hsl;go_upto_region 3 with (at_builtin;refine XH _ rfl _ _ 24 rfl (w.heap.size+2) 9 i0 (.string ⟨#[]⟩) 16 underlying24 HI.out.1 HI.out.2.1 HI.out.2.2.1 HI.out.2.2.2 rfl _ _ _ rfl HO1.out (some ⟨w1.heap.size,0,none⟩) 1 1 ([sec].map .string) rfl HR1.out (XB _) dh aB aP ?_;intro v3 w3 hown3 hg3;obtain⟨B3,d3,rfl⟩:=Af hown3)
 have hb3:Below (w.heap.size+2) w1 w3:=(Below.mono HB11.out aB).trans (Below.grown (Below.refl _ _) hg3 aP (fun r e=>fE HO1.out r e));have HZ3:=aA (show aQ w3 (w.heap.size+1) 30 ZS from (hb3.block _ aB).trans HZ1.out);have hbw3:aF w w3:=HBW1.out.trans (Below.mono hb3 aB);have HRV:=aA (show aI w3 1 B3 (1+n+1) ((sec :: ps++[sec]).map .string) by rw[HSL.out];exact aI.of_own hown3);clear hown3 hb3 hg3 HO1 HR1 HB11 HZ1 HBW1 hs1 HS1 y2 hzl;go_wp2_with (first | (go_at_call 58;refine (HO.out _ _ _ HRV.out hbw3).mono ?_;rintro e w2 ⟨rfl,hb2⟩;have hz2:=HZ3.out.keep hb2;have hbw:=aV hbw3 hb2) | (refine wpList_store_row rfl _ _ _ rfl (w.heap.size+1) DG rfl rfl _ ZS hz2 HDI.out (by rw[HZS.out,HDS.out]) HDO.out ?_));refine bodyPost_ret (v:=.agg DG) ?_ rfl ⟨rfl,?_⟩
 ·exact results_cell_row rfl _ _ (w.heap.size+1) _ _ (0,0) _ rfl (setRow_heap _ _ _ _ _ _ hz2) underlying30 rfl HDI.out
 ·exact below_setRow hbw aB _
theorem aHw:(prog.info? 5).map (fun i=>(i.zero,i.size,i.bytes))=some (some (.int .u8 0),1,1):=by kernel_rfl
theorem aHx(w:World)(t:TypeId)(a:Value)(g:Nat)(hg:g=w.heap.size):aI (w.alloc (.cells #[a] t)) 1 (some ⟨g,0,none⟩) 1 [a]:=by
 subst hg;refine⟨rfl,fun _=>⟨_,_,rfl,fun j u hu=>?_⟩⟩;rw[Nat.zero_add,cell_of_row _ _ _ _ _ _ (World.alloc_heap_new w (.cells #[a] t))];simpa using hu
theorem aHy(l:List Nat)(k:Nat)(hk:k<l.length):b8 (l.take (k+1))=b8 (l.take k)++[.int .u8 ((l.getD k 0:Nat):Int)]:=by
 rw[List.take_add_one,List.getElem?_eq_getElem hk,rQ];simp[b8,List.getD_eq_getElem?_getD,List.getElem?_eq_getElem hk]
theorem aHz(l:List Nat)(hl:dm l)(w:World):Calls prog 107 #[.agg (b8 l).toArray] w (Ret w (.string (toN l))):=by
 obtain⟨i0,hi0,hz0,hz1,hz2⟩:=info_parts aHw;have HI:=aA (And.intro hi0 (And.intro hz0 (And.intro hz1 hz2)));clear hi0 hz0 hz1 hz2;have hlen:=hl.len;have hXc:∀ k,k<16->(b8 l).toArray[k]? = some (.int .u8 ((l.getD k 0:Nat):Int)):=fun k hk=>by rw[List.getElem?_toArray];exact qL l aB
 have HXC:=aA hXc;have HLT:=aA hl.lt;have HLEN:=aA hlen;clear hXc hlen hl;generalize (b8 l).toArray=X at *;go_enter func107,ntmps107;go_upto_region 1 with fail
 generalize hw0:World.alloc _ _=w0;have hx0:aQ w0 w.heap.size 51 X:=vN;have hb0:aF w w0:=yY;have hs0:w.heap.size+1<=w0.heap.size:=vX;clear hw0;go_wp2;go_loopw [4,3] (fun iv pv wr=>∃(k:Nat)(B:Option Addr)(d:Nat),k<=16/\iv=.int .i64 k/\pv=.slice B k d/\wr.ownsRow (w.heap.size+1) 5 1 (.slice B k d) k (b8 (l.take k))/\aQ wr w.heap.size 51 X/\w.heap.size+1<=wr.heap.size/\aF w wr) (fun iv _ _=>16-(intOf iv).toNat)
 case atStart=>exact⟨0,none,0,aB,rfl,rfl,World.ownsRow_nil _ _ _ _,hx0,hs0,hb0⟩
 case round =>
  obtain⟨k,B,d,hk,rfl,rfl,hown,hx,hs,hb⟩:=hrel;clear hx0 hb0;by_cases hlt:k<16
  ·have y:=hx.cell (HXC.out k hlt);have hzl:=bu y;have hk0:(0:Int)<=(k:Int):=aB;have hk1:(k:Int)<16:=aB;have e1:=aHy l k (by have:=HLEN.out;omega);generalize l.getD k 0=q at *;have HE:=aA e1;have hown1:=fZ hown (fJ wr (.cells #[.int .u8 (q:Int)] 5));have hra1:=aHx wr 5 (.int .u8 (q:Int)) wr.heap.size rfl;have HO1:=aA hown1;have HR1:=aA hra1;have HX:=aA hx;have HB1:=aA (fJ wr (.cells #[.int .u8 (q:Int)] 5));clear hown1 hra1 hown e1 hx;go_wp2_with (at_builtin;refine XH _ rfl _ _ 105 rfl (w.heap.size+1) 5 i0 (.int .u8 0) 1 underlying105 HI.out.1 HI.out.2.1 HI.out.2.2.1 HI.out.2.2.2 rfl _ _ _ rfl HO1.out (some ⟨wr.heap.size,0,none⟩) 1 1 [.int .u8 (q:Int)] rfl HR1.out (by intro u hu;rw[List.mem_singleton.1 hu];rfl) dh aB aP ?_;intro v3 w3 hown3 hg3;obtain⟨B3,d3,rfl⟩:=Af hown3);have hb3:Below (w.heap.size+1) wr w3:=(Below.mono HB1.out aB).trans (Below.grown (Below.refl _ _) hg3 aP (fun r e=>fE HO1.out r e));exact⟨⟨k+1,B3,d3,aB,bg,rfl,by rw[HE.out];exact hown3,(hb3.block _ aB).trans HX.out,Nat.le_trans hs hb3.size,hb.trans (Below.mono hb3 aB)⟩,dD⟩
  ·obtain rfl:k=16:=aB;have hlk:l.take 16=l:=List.take_of_length_le (by have:=HLEN.out;omega);rw[hlk]at hown;have hcv:=ui wr B 16 d l HLEN.out HLT.out aB (aI.of_own hown);have HCV:=aA hcv;clear hown hlk;go_wp2;go_ret;exact⟨rfl,hb⟩
def F6(l:List aC)(k:Nat):aC:=toB (Lib.join ((az l).take k) [44])
theorem aIa(l:List aC)(x:aC)(h:l[0]? = some x):F6 l 1=x:=by
 cases l with
 | nil=>cases h
 | cons y r =>
  simp only[List.getElem?_cons_zero,Option.some.injEq]at h;subst h;simp only[F6,az,List.map_cons,List.take_succ_cons,List.take_zero,Lib.join_one];exact fK (by simp[toB])
theorem aIb(l:List aC)(k:Nat)(x:aC)(hk:k≠0)(h:l[k]? = some x):F6 l k++⟨#[44]⟩++x=F6 l (k+1):=by
 cases l with
 | nil=>cases h
 | cons y r =>
  obtain⟨j,rfl⟩:∃ j,k=j+1:=⟨k-1,aB⟩;rw[List.getElem?_cons_succ]at h;simp only[F6,az,List.map_cons,List.take_succ_cons,Lib.join_cons];rw[Lib.joinTail_take_succ [44] (r.map (·.data.toList)) j x.data.toList (by rw[List.getElem?_map,h];rfl)];exact fK (by simp[toB])
theorem aIc(l:List aC)(k:Nat):(F6 l k).size<=(Lib.join (az l) [44]).length:=by
 rw[F6,mg];cases l with
 | nil=>simp[az]
 | cons y r =>
  cases k with
  | zero=>simp[Lib.join_nil]
  | succ j =>
   simp only[az,List.map_cons,List.take_succ_cons,Lib.join_cons,List.length_append];have:=Lib.joinTail_take_le [44] (r.map (·.data.toList)) j;omega
theorem aId(l:List aC):F6 l l.length=toB (Lib.join (az l) [44]):=by
 rw[F6,List.take_of_length_le (by simp[az])]
attribute [local go_sem] Oper.semAt_some
theorem aIe{xs:List Int}{k:Nat}{u:Value}(h:(xs.map (Value.int .i64))[k]? = some u):∃ x,xs[k]? = some x/\u=.int .i64 x:=by
 rw[List.getElem?_map,Option.map_eq_some_iff]at h;obtain⟨x,hx,rfl⟩:=h;exact⟨x,hx,rfl⟩
attribute [local go_sem] Oper.semAt_some
theorem aIf(n:Nat)(h:n<256):((UInt8.ofNat n).toNat:Int)=(n:Int):=by
 have:(UInt8.ofNat n).toNat=n:=aP;rw[this]
def II(c:aY):Bool:=aBr c.cl.length c.co.length c.si.length c.pat c.cl c.co
theorem IB{c:aY}(h:II c=true):dE c:=by
 unfold II aBr at h;simp only[Bool.and_eq_true,decide_eq_true_eq,List.all_eq_true]at h;obtain⟨⟨⟨⟨⟨h1,h2⟩,h3⟩,h4⟩,h5⟩,h6⟩:=h;exact⟨aB,fun x hx=>by have:=h5 x hx;omega,fun x hx=>by have:=h6 x hx;omega,aB,aB,aB⟩
theorem aEh(c:aY)(m:ae)(w:World)(hR:dA w c m):Calls prog 9 #[ae.val c m] w (Ret w (.bool (II c))):=aGn c.fr c.till c.us c.pat m.A m.B m.S c.cl.length m.ca c.co.length m.cb c.si.length m.cs c.cl c.co w hR.cl hR.co
theorem aIg(s:aC)(h:s.size=2):iV s=(decide ((97:Int)<=((s[0]' aB).toNat:Int))&&decide (((s[0]' aB).toNat:Int)<=122)&&decide ((97:Int)<=((s[1]' aB).toNat:Int))&&decide (((s[1]' aB).toNat:Int)<=122)):=by
 unfold iV;rw[decide_eq_true h,Bool.true_and,Zt s h];simp only[List.all_cons,List.all_nil,Bool.and_true];rw[Bool.eq_iff_iff];simp only[Bool.and_eq_true,decide_eq_true_eq];omega
theorem aIh(s:aC)(w:World)(hs:s.size<=4294967281):Calls prog 67 #[.string s] w (Ret w (.bool (iV s))):=by
 by_cases h2:s.size=2
 ·have d2:((s.size:Int)==2)=true:=aP;have hv:=aIg s h2;have q0:(0:Int)<(s.size:Int):=aB;have q1:(1:Int)<(s.size:Int):=aB;rw[hv];clear hv;cases e1:decide ((97:Int)<=((s[0]' aB).toNat:Int))
  ·exact aBs
  cases e2:decide (((s[0]' aB).toNat:Int)<=122)
  ·exact aBs
  cases e3:decide ((97:Int)<=((s[1]' aB).toNat:Int))
  ·exact aBs
  cases e4:decide (((s[1]' aB).toNat:Int)<=122)
  ·exact aBs
  ·exact aBs
 ·have d2:((s.size:Int)==2)=false:=beq_eq_false_iff_ne.2 aB;have hv:iV s=false:=by unfold iV;rw[decide_eq_false h2];rfl
  rw[hv];exact aBs
theorem aIi(x y:aC):(Op.bytesLess x.toList y.toList||x.toList==y.toList) = !ltB y x:=Zw x y
def CB(l:List aC):Bool:=(List.range l.length).all (okK ltB (fun _=>true) l)
theorem aIj{l:List aC}{k:Nat}{x y:aC}(hx:l[k+1]? = some x)(hy:l[k]? = some y):okK ltB (fun _=>true) l (k+1)=ltB y x:=by
 unfold okK;rw[hx,Nat.add_sub_cancel,hy];simp
theorem aIk{l:List aC}{k:Nat}(hk:k<l.length)(h2:okK ltB (fun _=>true) l k=false):CB l=false:=by
 unfold CB;rw[List.all_eq_false];exact⟨k,by simpa using hk,by rw[h2];simp⟩
theorem aEi(A:Option Addr)(n c:Nat)(xs:List aC)(w:World)(hA:aI w 1 A n (xs.map .string))(hn:n<=1000000000):Calls prog 68 #[.slice A n c] w (Ret w (.bool (CB xs))):=by
 have hl:xs.length=n:=jK;obtain⟨V,hV⟩:∃ V,V=CB xs:=⟨_,rfl⟩;rw[<-hV];have HA:=aA hA;have HL:=aA hl;have HV:=aA hV;clear hA hl hV;go_enter func68,ntmps68;go_wp2;go_loopw [3] (fun i wr=>∃ k:Nat,k<=n/\i=.int .i64 (k+1:Nat)/\Hid ((List.range (k+1)).all (okK ltB (fun _=>true) xs)=true)/\aF w wr) (fun i _=>n+1-(intOf i).toNat)
 case atStart=>exact⟨0,aB,rfl,aA (by simp[okK];cases xs[0]? <;> rfl),Below.refl _ _⟩
 case round =>
  obtain⟨k,hk,rfl,HK,hb⟩:=hrel;by_cases hlt:k+1<n
  ·obtain⟨x,hx⟩:∃ x,xs[k+1]? = some x:=⟨_,List.getElem?_eq_getElem gV⟩;obtain⟨y,hy⟩:∃ y,xs[k]? = some y:=⟨_,List.getElem?_eq_getElem gV⟩;obtain⟨pb,po,rfl,hcell⟩:=(HA.out.keep hb).2 aB;have hc1:wr.cell? ⟨pb,po+(k+1),none⟩=some (.string x):=hcell (k+1) _ gB;have hc2:wr.cell? ⟨pb,po+k,none⟩=some (.string y):=hcell k _ qH;have hk0:(0:Int)<=(k:Int):=aB;have hk1:(k:Int)<(n:Int):=aB;have hk2:(0:Int)<=(k:Int)+1:=aB;have hk3:(k:Int)+1<(n:Int):=aB;have hle:=aIi x y;have hat:=aIj hx hy;cases ht:ltB y x
   ·obtain rfl:V=false:=by rw[HV.out];exact aIk (k:=k+1) gV (by rw[hat,ht])
    rw[ht]at hle;clear HK hcell hx hy hat ht;exact aCm
   ·have HK2:Hid ((List.range (k+1+1)).all (okK ltB (fun _=>true) xs)=true):=aA (yK HK.out (by rw[hat,ht]));rw[ht]at hle;clear HK hcell hx hy hat ht;go_wp2_with fail;go_quiet (fail);go_wp2;exact⟨⟨k+1,aB,bg,HK2,aJ⟩,dD⟩
  ·obtain rfl:V=true:=by
    rw[HV.out];unfold CB;rw[List.all_eq_true];intro j hj;have:=HK.out;rw[List.all_eq_true]at this;exact this j (by simp at hj ⊢;have:=HL.out;omega)
   go_wp2;go_ret;exact⟨rfl,hb⟩
def aCn(s:aC):Bool:=if decide (2<s.size)&&((s.extract 0 2).toList == [42,46]) then decide (s.size<=34)&&bW (s.extract 2 s.size) else s.toList == [42]||bW s
theorem aIl(s:aC)(w:World)(hs:s.size<=4294967200):Calls prog 189 #[.string s] w (Ret w (.bool (aCn s))):=by
 have c1:=fun W=>aCz s W aB
 have c2:=fun W=>aCz (s.extract 2 s.size) W (by rw[ByteArray.size_extract];omega)
 unfold aCn;generalize bW (s.extract 2 s.size)=b2 at *;generalize bW s=b1 at *;by_cases h1:2<s.size
 ·have d1:decide ((2:Int)<(s.size:Int))=true:=decide_eq_true aB;have q2:(2:Int)<=(s.size:Int):=aB;rw[decide_eq_true h1];cases h2:((s.extract 0 2).toList == [42,46])
  ·simp only[Bool.and_false,Bool.false_eq_true,if_false];cases h3:(s.toList == [42])
   ·have HW:=aA c1;exact aDh
   ·exact aDi
  ·simp only[Bool.and_self,if_true];by_cases h4:s.size<=34
   ·have d4:decide ((s.size:Int)<=34)=true:=decide_eq_true aB;have HW:=aA c2;rw[decide_eq_true h4];exact aDh
   ·have d4:decide ((s.size:Int)<=34)=false:=decide_eq_false aB;rw[decide_eq_false h4];exact aDi
 ·have d1:decide ((2:Int)<(s.size:Int))=false:=decide_eq_false aB;rw[decide_eq_false h1];simp only[Bool.false_and,Bool.false_eq_true,if_false];cases h3:(s.toList == [42])
  ·have HW:=aA c1;exact aDh
  ·exact aDi
theorem aIm{w:aC}(h:bW w=true)(l:List UInt8):w.data.toList≠42 :: l:=fun e=>(rP h).2.2.2.2.1 (by rw[e];simp)
theorem aIn(s:aC):aCn s=kP s:=by
 unfold aCn kP;have hx:((s.extract 0 2).toList == [42,46])=Lib.hasPrefix s.data.toList [42,46]:=by
  rw[Lib.toList_data,Lib.extract_data];unfold Lib.hasPrefix;rw[Bool.eq_iff_iff,beq_iff_eq,List.isPrefixOf_iff_prefix];constructor
  ·intro h;refine⟨s.data.toList.drop 2,?_⟩;rw[<-h];simp
  ·rintro⟨r,h⟩;rw[<-h];simp
 rw[hx];cases hp:Lib.hasPrefix s.data.toList [42,46]
 ·simp
 ·obtain⟨r,hr⟩:=G9 hp;have e:(s.extract 2 s.size).data.toList=r:=by rw[extract_data,hr];rfl
  have hz:s.size=r.length+2:=by rw[jY,hr];rfl
  have h42:(s.toList == [42])=false:=by rw[Lib.toList_data,hr,beq_eq_false_iff_ne];simp
  have hw:bW s=false:=by
   cases h:bW s
   ·rfl
   ·exact absurd hr (aIm h _)
  rw[h42,hw];simp only[Bool.and_true,Bool.false_or,Bool.and_true];by_cases h2:2<s.size
  ·rw[if_pos (by simpa using h2)]
  ·rw[if_neg (by simpa using h2)];have:bW (s.extract 2 s.size)=false:=by
    cases h:bW (s.extract 2 s.size)
    ·rfl
    ·have:=(xP h).1;rw[e]at this;exact absurd (List.eq_nil_of_length_eq_zero aB) this
   rw[this,Bool.and_false]
end Go.Proofs.YtlkbkclnbppigaaGreatDoor
