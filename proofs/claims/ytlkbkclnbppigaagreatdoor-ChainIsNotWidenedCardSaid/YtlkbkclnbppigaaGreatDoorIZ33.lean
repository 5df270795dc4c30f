/- chain.Mint. -/
import Derived.Test.YtlkbkclnbppigaaGreatDoorIZ31
set_option maxHeartbeats 16000000
namespace Go.Proofs.YtlkbkclnbppigaaGreatDoor
open Tryz
open Go.RowKit Go.Sort
set_option linter.unusedVariables false
set_option linter.unusedSimpArgs false
set_option maxRecDepth 100000
def jQ(t:bz)(er:Int)(w:World)(e:Ending)(w':World):Prop:=aF w w'/\∃ y:ah,e=.returned (.tuple #[y.val,.int .i64 er])/\bZ w' y/\y.t=t
def tC(t:bz)(er:Int)(L:List CoM)(w:World)(e:Ending)(w':World):Prop:=aF w w'/\∃ y:ah,e=.returned (.tuple #[y.val,.int .i64 er])/\bZ w' y/\y.t=t/\(er=0->y.L=L/\∀ a,y.A=some a->w.heap.size<=a.block)
theorem tC.weak{t:bz}{er:Int}{L:List CoM}{w w':World}{e:Ending}(h:tC t er L w e w'):jQ t er w e w':=⟨h.1,h.2.elim fun y hy=>⟨y,hy.1,hy.2.1,hy.2.2.1⟩⟩
theorem lC:(prog.info? 32).map (·.size)=some 20:=by kernel_rfl
theorem DR(cust ser:Int)(id:aC)(A:Option Addr)(n c:Nat)(s:List Nat)(hs:s.length=16):(bn cust ser id A n c s).toArray.size=20:=by
 unfold bn;rw[List.size_toArray,List.length_append,dU,hs];rfl
theorem mi(cust ser:Int)(id:aC)(A:Option Addr)(n c:Nat)(s:List Nat):(bn cust ser id A n c s).toArray.all (·.oneCell')=true:=by
 unfold bn;rw[List.all_toArray,List.all_append,List.all_eq_true.2 (nC s)];rfl
theorem X0(a b:Int)(id:aC)(g:Nat):(#[.int .i64 a,.int .i64 b,.string id,.slice (some ⟨g,0,none⟩) 1 1,.int .u8 0,.int .u8 0,.int .u8 0,.int .u8 0,.int .u8 0,.int .u8 0,.int .u8 0,.int .u8 0,.int .u8 0,.int .u8 0,.int .u8 0,.int .u8 0,.int .u8 0,.int .u8 0,.int .u8 0,.int .u8 0]:Array Value).all (·.oneCell')=true:=mi a b id (some ⟨g,0,none⟩) 1 1 fH
def vZ:ah:=⟨iK,none,0,[]⟩
theorem yz(w:World):bZ w vZ:=⟨rfl,⟨rfl,aI.nil_ _ _ _,fun x hx=>by cases hx⟩,JW,Nat.le_refl _⟩
theorem NH{W:World}{y:CoM}{g:Nat}(h:aQ W g 27 y.cells.toArray):aI W 7 (some ⟨g,0,none⟩) 1 ([y].flatMap CoM.cells):=by
 refine⟨rfl,fun _=>⟨_,_,rfl,fun j u hu=>?_⟩⟩;rw[Nat.zero_add,cell_of_row _ _ _ _ _ _ h];simpa using hu
theorem zT(cust ser:Int)(id:aC)(A:Option Addr)(n c:Nat)(z s:List Nat)(hz:z.length=16)(hs:s.length=16):splice (bn cust ser id A n c z) 4 (b8 s)=bn cust ser id A n c s:=by
 unfold splice bn;have h1:(b8 z).length=16:=by rw[dU,hz]
 have h2:(b8 s).length=16:=by rw[dU,hs]
 simp[h2,h1]
structure MiS(w:World)(K ZT:Array Value)(g:Nat)(X:Array Value)(cg:Nat)(Y:Array Value)(W:World):Prop where
 k:aQ W w.heap.size 23 K
 r:aQ W (w.heap.size+2) 32 ZT
 t:aQ W g 32 X
 c:aQ W cg 27 Y
 b:aF w W
 s:w.heap.size+2<W.heap.size
theorem MiS.keep{w W W':World}{K Z X Y:Array Value}{g cg:Nat}(h:MiS w K Z g X cg Y W)(hb:aF W W'):MiS w K Z g X cg Y W':=⟨h.k.keep hb,h.r.keep hb,h.t.keep hb,h.c.keep hb,aV h.b hb,Nat.lt_of_lt_of_le h.s hb.size⟩
theorem X6(k:aj)(id:aC)(c:aY)(m:ae)(w:World)(hR:dA w c m)(hf:dE c)(htx:bF c=true->(bK c).size<=1000000)(hk:k.secret.size<=1000000)(hid:id.size<=1000000)(hK:Ks w)(hE:Env w)(hTb:Tab w) :
  Calls prog 12 #[k.val,.string id,ae.val c m] w (tC (jy k id c).1 (jy k id c).2 [⟨c,m⟩] w):=by
 have hsv:=fun W=>WC k W
 have hld0:=fun (W:World) (h:aQ W w.heap.size 23 k.arr)=>iM h kJ
 obtain⟨R,hRR⟩:∃ R,R=tC (jy k id c).1 (jy k id c).2 [⟨c,m⟩] w:=⟨_,rfl⟩;rw[<-hRR];have HRR:=aA hRR;clear hRR;rw[aj.val_arr]at hsv ⊢;have hk0:k.arr[0]? = some (.int .i64 k.party):=rfl;have hk1:k.arr[1]? = some (.int .i64 k.ser):=rfl;obtain⟨KX,hKX⟩:∃ KX,KX=k.arr:=⟨_,rfl⟩;rw[<-hKX]at hsv hld0 hk0 hk1 ⊢;have HSV:=aA hsv;have HLD0:=aA hld0;have HKX:=aA hKX;clear hsv hld0 hKX;unfold ae.val;have HONE:=aA X0;go_enter func12,ntmps12;go_upto_region 1 with fail
 generalize hw0:World.alloc _ _=w0;have hkb:aQ w0 w.heap.size 23 KX:=by rw[<-hw0];exact (iL w _ _ _).1
 have hcb:aQ w0 (w.heap.size+1) 27 #[.int .i64 c.fr,.int .i64 c.till,.string c.pat,.slice m.A c.cl.length m.ca,.slice m.B c.co.length m.cb,.slice m.S c.si.length m.cs,.int .i64 c.us]:=by rw[<-hw0];exact (iL w _ _ _).2.1
 have hrb:aQ w0 (w.heap.size+2) 32 bf:=by rw[<-hw0];exact (iL w _ _ _).2.2
 have hb0:aF w w0:=oH;have hz0:w0.heap.size=w.heap.size+3:=vX;have q0:=hkb.cell hk0;have q1:=hkb.cell hk1;have hldc:=iO hcb rfl;have HZ0:=aA hz0;have hzl:w.heap.size<w0.heap.size:=aB;clear hw0 hk0 hk1 hz0;go_upto_region 2 with (first
  | (refine bD rfl 27 _ rfl ⟨w.heap.size+1,0,none⟩ _ rfl hldc ?_)
  | (refine wpList_store_row rfl 32 _ _ rfl (w0.heap.size+1) #[.int .i64 k.party,.int .i64 k.ser,.string id,.slice (some ⟨w0.heap.size,0,none⟩) 1 1,.int .u8 0,.int .u8 0,.int .u8 0,.int .u8 0,.int .u8 0,.int .u8 0,.int .u8 0,.int .u8 0,.int .u8 0,.int .u8 0,.int .u8 0,.int .u8 0,.int .u8 0,.int .u8 0,.int .u8 0,.int .u8 0] rfl rfl _ bf (heap_alloc2_new w0 _ _) lC rfl (HONE.out _ _ _ _) ?_))
 generalize (Value.agg #[.int .i64 k.party,.int .i64 k.ser,.string id,.slice (some ⟨w0.heap.size,0,none⟩) 1 1,.int .u8 0,.int .u8 0,.int .u8 0,.int .u8 0,.int .u8 0,.int .u8 0,.int .u8 0,.int .u8 0,.int .u8 0,.int .u8 0,.int .u8 0,.int .u8 0,.int .u8 0,.int .u8 0,.int .u8 0,.int .u8 0])=v16;generalize hw1:World.setRow _ _ _=w1;obtain⟨y,hy⟩:∃ y:CoM,y=⟨c,m⟩:=⟨_,rfl⟩;obtain⟨x,hx⟩:∃ x:ah,x=⟨⟨k.party,k.ser,id,[c],fH⟩,some ⟨w0.heap.size,0,none⟩,1,[y]⟩:=⟨_,rfl⟩;have hb01:aF w0 w1:=by rw[<-hw1];exact below_setRow (aU (aU (Below.refl _ _) _) _) aB _
 have hXc:x.cells.toArray=#[.int .i64 k.party,.int .i64 k.ser,.string id,.slice (some ⟨w0.heap.size,0,none⟩) 1 1,.int .u8 0,.int .u8 0,.int .u8 0,.int .u8 0,.int .u8 0,.int .u8 0,.int .u8 0,.int .u8 0,.int .u8 0,.int .u8 0,.int .u8 0,.int .u8 0,.int .u8 0,.int .u8 0,.int .u8 0,.int .u8 0]:=by rw[hx];rfl
 have htb:aQ w1 (w0.heap.size+1) 32 x.cells.toArray:=by rw[<-hw1,hXc];exact setRow_heap _ _ _ _ _ _ (heap_alloc2_new w0 _ _)
 have hcb1:aQ w1 w0.heap.size 27 y.cells.toArray:=by
  have h1:aQ (w0.alloc (.cells #[.int .i64 c.fr,.int .i64 c.till,.string c.pat,.slice m.A c.cl.length m.ca,.slice m.B c.co.length m.cb,.slice m.S c.si.length m.cs,.int .i64 c.us] 27)) w0.heap.size 27 y.cells.toArray:=by rw[hy];exact heap_alloc_new w0 _
  refine h1.keep ?_;rw[<-hw1];exact below_setRow (fJ _ _) aH _
 have hcr:=NH hcb1;have hbw1:aF w w1:=aV hb0 hb01;have hTR:bZ w1 x:=by
  rw[hx];refine⟨by rw[hy];rfl,⟨rfl,hcr,fun z hz=>?_⟩,JW,Nat.le_refl _⟩;rw[List.mem_singleton.1 hz,hy];exact hR.keep hbw1
 have hS1:MiS w KX bf (w0.heap.size+1) x.cells.toArray w0.heap.size y.cells.toArray w1:=⟨hkb.keep hb01,hrb.keep hb01,htb,hcb1,hbw1,by have:=HZ0.out;have:=hb01.size;omega⟩;have hfL:∀ z∈x.L,dE z.c:=by
  intro z hz;rw[hx]at hz;rw[List.mem_singleton.1 hz,hy];exact hf
 have hxt:x.t=⟨k.party,k.ser,id,[c],fH⟩:=by rw[hx]
 have hxA:x.A=some ⟨w0.heap.size,0,none⟩/\x.c=1:=by rw[hx];exact⟨rfl,rfl⟩
 have htv:=fun (W:World) (hb:aF w1 W)=>yZ x W (hTR.keep hb) hfL (by rw[hxt];show id.size<=_;omega) (by rw[hxt];show 1<=_;omega) (hE.keep (aV hbw1 hb))
 have hXS:x.cells.toArray.size=20:=by rw[List.size_toArray];exact hTR.size
 obtain⟨g,hg⟩:∃ g,g=w0.heap.size+1:=⟨_,rfl⟩;rw[<-hg]at hS1 ⊢;have hgg:w.heap.size+3<=g/\w0.heap.size<g/\w.heap.size+2<w0.heap.size:=by have:=HZ0.out;omega
 clear hg;have hmint:jy k id c=if lQ k&&gX x.t then (⟨k.party,k.ser,id,[c],eU k x.t⟩,0) else (iK,1):=by unfold jy;rw[hxt]
 have hzon:(bf:Array Value).all (·.oneCell')=true:=mi 0 0 ⟨#[]⟩ none 0 0 fH;have HZON:=aA hzon;have HXS:=aA hXS;have HS1:=aA hS1;have HMI:=aA hmint;clear hzon hXS hS1 hmint hXc htb hcr hcb1 hkb hcb hrb hb0 hb01 hldc q0 q1 hzl hw1;have hldt1:=dY HS1.out.t HXS.out;have hldk1:=HLD0.out w1 HS1.out.k;have HX:=aA hx;have HYY:=aA hy;clear hx hy;cases hv1:lQ k
 ·have e1:jy k id c=(iK,1):=by rw[HMI.out,hv1];rfl
  have HE1:=aA e1;rw[hv1]at HSV;clear e1 HMI htv hv1 hE hTb hK hTR hfL hxt hxA;go_wp2_with (first | (refine bD rfl 23 _ rfl ⟨w.heap.size,0,none⟩ (.agg KX) rfl hldk1 ?_) | (go_at_call 43;refine (HSV.out _).mono ?_;rintro e w2 ⟨rfl,hb2⟩;have HS2:=aA (HS1.out.keep hb2);have HL2:=aA (dY (HS1.out.keep hb2).t HXS.out)) | (refine wpList_store_row rfl 32 _ _ rfl (w.heap.size+2) bf rfl rfl _ bf HS2.out.r lC rfl HZON.out ?_));refine bodyPost_ret (v:=.tuple #[.agg bf,.int .i64 1]) ?_ rfl ?_
  ·exact qi rfl _ _ (w.heap.size+2) _ _ rfl rfl (dY (setRow_heap _ _ _ _ _ _ HS2.out.r) rfl)
  ·rw[HRR.out,HE1.out];exact⟨below_setRow HS2.out.b aB _,vZ,rfl,yz _,rfl,fun h=>absurd h aK⟩
 rw[hv1]at HSV;cases hv2:gX x.t
 ·have e1:jy k id c=(iK,1):=by rw[HMI.out,hv1,hv2];rfl
  have HE1:=aA e1;rw[hv2]at htv;have HTV:=aA htv;clear e1 HMI htv hv1 hv2 hE hTb hK hTR hfL hxt hxA;go_wp2_with (first | (refine bD rfl 23 _ rfl ⟨w.heap.size,0,none⟩ (.agg KX) rfl hldk1 ?_) | (go_at_call 43;refine (HSV.out _).mono ?_;rintro e w2 ⟨rfl,hb2⟩;have HS2:=aA (HS1.out.keep hb2);have HL2:=aA (dY (HS1.out.keep hb2).t HXS.out)) | (go_big_want;refine jE 32 _ rfl ⟨g,0,none⟩ (.agg x.cells.toArray) rfl HL2.out ?_;simp only[Act.put,ag]) | (go_at_call 14;refine (HTV.out _ hb2).mono ?_;rintro e w3 ⟨rfl,hb3⟩;have HS3:=aA (HS2.out.keep hb3)) | (refine wpList_store_row rfl 32 _ _ rfl (w.heap.size+2) bf rfl rfl _ bf HS3.out.r lC rfl HZON.out ?_));refine bodyPost_ret (v:=.tuple #[.agg bf,.int .i64 1]) ?_ rfl ?_
  ·exact qi rfl _ _ (w.heap.size+2) _ _ rfl rfl (dY (setRow_heap _ _ _ _ _ _ HS3.out.r) rfl)
  ·rw[HRR.out,HE1.out];exact⟨below_setRow HS3.out.b aB _,vZ,rfl,yz _,rfl,fun h=>absurd h aK⟩
 have e1:jy k id c=(⟨k.party,k.ser,id,[c],eU k x.t⟩,0):=by rw[HMI.out,hv1,hv2];rfl
 have HE1:=aA e1;rw[hv2]at htv;have hok:=(vH _).1 hv2;have hcv:bF c=true:=hok.all c (by rw[hxt];exact List.mem_singleton.2 rfl);have hcok:∀ z∈x.L,kD z.c:=by
  intro z hz;rw[HX.out]at hz;rw[List.mem_singleton.1 hz,HYY.out];exact⟨hf,hcv,htx hcv⟩
 have hrt:=fun (W:World) (hb:aF w1 W)=>Md k x W (hTR.keep hb) hcok (by rw[hxt];exact Nat.le_refl 1) (by rw[hxt];show 1<=_;omega) hk (by rw[hxt];exact hid) (hK.keep (aV hbw1 hb)) (hE.keep (aV hbw1 hb)) (hTb.keep (aV hbw1 hb))
 rw[aj.val_arr,<-HKX.out]at hrt;have HTV:=aA htv;have HRT:=aA hrt;have hbr:=fun (W:World) (hS:MiS w KX bf g x.cells.toArray w0.heap.size y.cells.toArray W)=>And.intro (iM hS.k (by rw[HKX.out];exact kJ)) (dY hS.t HXS.out)
 obtain⟨S,hS⟩:∃ S,S=eU k x.t:=⟨_,rfl⟩;have hSok:dm S:=by rw[hS];exact Bz k x.t
 rw[<-hS]at hrt HE1;have HRT:=aA hrt;have HBR:=aA hbr;have HSK:=aA hSok;have hbl:∀ v∈b8 S,v.oneCell'=true:=nC S;have hbs:(prog.info? 30).map (·.size)=some (b8 S).length:=by rw[dU,hSok.len];exact lh
 have hsp:splice x.cells 4 (b8 S)=bn x.t.cust x.t.ser x.t.id x.A x.t.conds.length x.c S:=zT _ _ _ _ _ _ _ _ hTR.sl.len hSok.len;have hcl:x.cells.length=20:=hTR.size;have hnew:∀ W,aF w W->aQ W w0.heap.size 27 y.cells.toArray->bZ W ⟨⟨k.party,k.ser,id,[c],S⟩,x.A,x.c,x.L⟩:=fun W hb hc=>by
  rw[HX.out];refine⟨by rw[HYY.out];rfl,⟨rfl,NH hc,fun z hz=>?_⟩,hSok,Nat.le_refl _⟩;rw[List.mem_singleton.1 hz,HYY.out];exact hR.keep hb
 have hval:(ah.mk ⟨k.party,k.ser,id,[c],S⟩ x.A x.c x.L).val=.agg (bn x.t.cust x.t.ser x.t.id x.A x.t.conds.length x.c S).toArray:=by rw[hxt];rfl
 have HBL:=aA hbl;have HBS:=aA hbs;have HSP:=aA hsp;have HCL:=aA hcl;have HNEW:=aA hnew;have HVAL:=aA hval;have hTS:(bn x.t.cust x.t.ser x.t.id x.A x.t.conds.length x.c S).toArray.size=20:=DR _ _ _ _ _ _ _ hSok.len;have HTS:=aA hTS;have HTO:=aA (mi x.t.cust x.t.ser x.t.id x.A x.t.conds.length x.c S);clear hS hbl hbs hsp hcl hnew hval hTS hrt hbr hSok htv hcok hok hcv hv1 hv2 e1 hE hTb hK hTR hfL HMI hxt hxA;generalize hXN:(bn x.t.cust x.t.ser x.t.id x.A x.t.conds.length x.c S).toArray=XN at *;have HXN:=aA hXN;clear hXN;go_upto_region 4 with (first | (refine bD rfl 23 _ rfl ⟨w.heap.size,0,none⟩ (.agg KX) rfl hldk1 ?_) | (go_at_call 43;refine (HSV.out _).mono ?_;rintro e w2 ⟨rfl,hb2⟩;have HS2:=aA (HS1.out.keep hb2);have HL2:=aA (dY (HS1.out.keep hb2).t HXS.out)) | (go_big_want;refine jE 32 _ rfl ⟨g,0,none⟩ (.agg x.cells.toArray) rfl HL2.out ?_;simp only[Act.put,ag]) | (go_at_call 14;refine (HTV.out _ hb2).mono ?_;rintro e w3 ⟨rfl,hb3⟩;have HS3:=aA (HS2.out.keep hb3)))
 have hld4:=HBR.out w3 HS3.out;obtain⟨hk4,ht4⟩:=hld4;have hb13:=aV hb2 hb3;go_upto_region 5 with (first
  | (refine bD rfl 23 _ rfl ⟨w.heap.size,0,none⟩ (.agg KX) rfl hk4 ?_)
  | (refine bD rfl 32 _ rfl ⟨g,0,none⟩ (.agg x.cells.toArray) rfl ht4 ?_)
  | (go_at_call 44;refine (HRT.out _ hb13).mono ?_;rintro e w4 ⟨rfl,hb4⟩)
  | (refine wQ rfl 30 _ _ rfl g 4 (b8 S) rfl rfl _ x.cells (HS3.out.keep hb4).t HBS.out (by rw[dU,HSK.out.len,HCL.out];omega) HBL.out ?_))
 dsimp only[Act.put];rw[HSP.out,HXN.out];generalize hw5:World.setRow _ _ _=w5;have hb5:Below g w4 w5:=by rw[<-hw5];exact below_setRow (Below.refl _ _) (Nat.le_refl _) _
 have ht5:aQ w5 g 32 XN:=by rw[<-hw5];exact setRow_heap _ _ _ _ _ _ (HS3.out.keep hb4).t
 have hr5:aQ w5 (w.heap.size+2) 32 bf:=(hb5.block _ aB).trans (HS3.out.keep hb4).r;have hc5:aQ w5 w0.heap.size 27 y.cells.toArray:=(hb5.block _ hgg.2.1).trans (HS3.out.keep hb4).c;have hbw5:aF w w5:=(HS3.out.keep hb4).b.trans (hb5.mono aB);have hldn:=dY ht5 HTS.out;have HLN:=aA hldn;have HR5:=aA hr5;have HC5:=aA hc5;have HB5:=aA hbw5;clear hw5 hb5 ht5 hr5 hc5 hbw5 hldn hk4 ht4;go_wp2_with (first
  | (refine bD rfl 32 _ rfl ⟨g,0,none⟩ (.agg XN) rfl HLN.out ?_)
  | (refine wpList_store_row rfl 32 _ _ rfl (w.heap.size+2) XN rfl rfl _ bf HR5.out (by rw[HTS.out];exact lC) (by rw[HTS.out];rfl) HTO.out ?_))
 refine bodyPost_ret (v:=.tuple #[.agg XN,.int .i64 0]) ?_ rfl ?_
 ·exact NI
 ·rw[HRR.out,HE1.out];have hbw6:aF w (w5.setRow (w.heap.size+2) XN):=below_setRow HB5.out aB _;refine⟨hbw6,_,?_,HNEW.out _ hbw6 ((setRow_other _ _ _ _ aB).trans HC5.out),rfl,fun _=>⟨?_,?_⟩⟩
  ·rw[HVAL.out]
  ·show x.L=_;rw[HX.out,HYY.out]
  ·show ∀ a,x.A=some a->_;rw[HX.out];rintro a h;injection h with h
   rw[<-h];show w.heap.size<=w0.heap.size;have:=HZ0.out;omega
theorem X7(k:aj)(id:aC)(c:aY)(m:ae)(w:World)(hR:dA w c m)(hf:dE c)(htx:bF c=true->(bK c).size<=1000000)(hk:k.secret.size<=1000000)(hid:id.size<=1000000)(hK:Ks w)(hE:Env w)(hTb:Tab w) :
  Calls prog 12 #[k.val,.string id,ae.val c m] w (jQ (jy k id c).1 (jy k id c).2 w):=(X6 k id c m w hR hf htx hk hid hK hE hTb).mono fun _ _ h=>h.weak
theorem DT:(prog.info? 27).map (fun i=>(i.zero,i.size,i.bytes))=some (some (.agg fU),7,112):=by kernel_rfl
theorem NJ(L:List CoM):∀ u∈L.flatMap CoM.cells,u.oneCell'=true:=by
 intro u hu;obtain⟨x,_,h⟩:=List.mem_flatMap.1 hu;simp only[CoM.cells,List.mem_cons,List.not_mem_nil,or_false]at h;rcases h with rfl | rfl | rfl | rfl | rfl | rfl | rfl <;> rfl
theorem X9(L:List CoM):(L.flatMap CoM.cells).length=L.length*7:=Lu CoM.cells L (fun a _=>a.cells_len)
theorem YB(b o n c:Nat)(cs:List Value)(w:World)(hl:cs.length=n*7)(hc:∀ j u,cs[j]? = some u->w.cell? ⟨b,o+j,none⟩=some u)(h1:∀ u∈cs,u.oneCell'=true)(hn:n<=1000000) :
  Calls prog 51 #[.slice (some ⟨b,o,none⟩) n c] w fun e w'=>∃ v,e=.returned v/\w'.ownsRow w.heap.size 27 7 v n cs/\aF w w':=by
 obtain⟨i0,hi0,hz0,hz1,hz2⟩:=info_parts DT;have HI:=aA (And.intro hi0 (And.intro hz0 (And.intro hz1 hz2)));clear hi0 hz0 hz1 hz2;have hown0:(w.alloc (.cells #[] 27)).ownsRow w.heap.size 27 7 (.slice (some ⟨w.heap.size,0,none⟩) 0 0) 0 []:=World.ownsRow_lit (base:=w.heap.size) (e:=27) (size:=7) w #[] 0 (Nat.le_refl _) dh rfl;have hba:=fJ w (.cells #[] 27);have HO:=aA hown0;have HC:=aA hc;have HL:=aA hl;have H1:=aA h1;have HB:=aA hba;clear hown0 hc hl h1 hba;have hadd:∀ j,(⟨b,o,none⟩:Addr).add j=⟨b,o+j,none⟩:=fun j=>nH
 have HA:=aA hadd;clear hadd;have he:∀ w:World,(binOp .eql 28 (.slice (some ⟨b,o,none⟩) n c) (.slice none 0 0)).run prog w=.ok (.bool false) w:=fun _=>rfl
 go_enter func51,ntmps51;go_wp2_with (at_builtin;refine wpList_append_own _ rfl _ _ 28 rfl w.heap.size 27 i0 (.agg fU) 7 112 underlying28 HI.out.1 HI.out.2.1 HI.out.2.2.1 HI.out.2.2.2 rfl aK _ 0 [] rfl HO.out ⟨b,o,none⟩ n c cs rfl HL.out (fun j u hu=>by rw[HA.out];exact aW HB.out (HC.out j u hu)) H1.out dh aB aH ?_;intro v' w' hown' hgrow _);rw[Nat.zero_add,List.nil_append]at hown';go_ret;exact⟨v',rfl,hown',HB.out.grown hgrow aH (fun r e=>fE HO.out r e)⟩
end Go.Proofs.YtlkbkclnbppigaaGreatDoor
