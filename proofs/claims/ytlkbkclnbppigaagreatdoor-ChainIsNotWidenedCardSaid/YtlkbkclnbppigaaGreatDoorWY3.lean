/- The specification's Few and Valid of a signed address; the texts of a condition. -/
import Derived.Test.YtlkbkclnbppigaaGreatDoorWY2
import Derived.Test.YtlkbkclnbppigaaGreatDoorIZ37
set_option maxHeartbeats 16000000
namespace Go.Proofs.YtlkbkclnbppigaaGreatDoor
open Tryz
open Go.RowKit Go.Sort
set_option linter.unusedVariables false
set_option linter.unusedSimpArgs false
set_option maxRecDepth 100000
theorem aIy{α:Type}(p:α->Bool)(l:List α)(k:Nat)(x:α)(hx:l[k]? = some x)(hp:p x=true):(l.drop k).all p=(l.drop (k+1)).all p:=by
 obtain⟨hl2,rfl⟩:=List.getElem?_eq_some_iff.1 hx;rw[List.drop_eq_getElem_cons hl2,List.all_cons,hp,Bool.true_and]
theorem aIz{α:Type}(p:α->Bool)(l:List α)(k:Nat)(x:α)(hx:l[k]? = some x)(hp:p x=false):(l.drop k).all p=false:=by
 obtain⟨hl2,rfl⟩:=List.getElem?_eq_some_iff.1 hx;rw[List.drop_eq_getElem_cons hl2,List.all_cons,hp,Bool.false_and]
theorem aJa{x:ah}{w:World}(hR:bZ w x)(p:aY->Bool):x.L.all (fun y=>p y.c)=x.t.conds.all p:=by rw[<-hR.same,List.all_map];rfl
theorem aJb(x:ah)(w:World)(hR:bZ w x)(hf:∀ y∈x.L,dE y.c)(hid:x.t.id.size<=1000000)(hn:x.t.conds.length<=1000000):Calls prog 15 #[x.val] w (Ret w (.bool (gX x.t))):=by
 have cP:=fun (y:CoM) (hy:y∈x.L) (W:World) (hb:aF w W)=>aCb y.c y.m W ((hR.conds.each y hy).keep hb) (hf y hy).p (hf y hy).cl (hf y hy).co (hf y hy).n1 (hf y hy).n2 (hf y hy).n3
 have hN:=fun W=>aDa x.t.id W aB
 have hl:=hR.conds.len;have hbad:∀ v,Bo x.t=v->gX x.t=(v&&(decide (1<=x.t.conds.length/\x.t.conds.length<=16)&&x.t.conds.all bF)):=by
  intro v hv;unfold gX;rw[hv,Bool.and_assoc]
 obtain⟨R,hR0⟩:∃ R,R=gX x.t:=⟨_,rfl⟩;rw[<-hR0]at hbad ⊢;rw[<-aJa hR]at hbad;obtain⟨V,hV⟩:∃ V,V=x.L.all (fun y=>bF y.c):=⟨_,rfl⟩;rw[<-hV]at hbad;have hA:=hR.conds;obtain⟨pr,hpr⟩:∃ pr,pr=bF:=⟨_,rfl⟩;rw[<-hpr]at hV cP;have hok:Bo x.t=(decide (1<=x.t.cust/\x.t.cust<=1073741824)&&decide (1<=x.t.ser/\x.t.ser<=1073741824)&&bU x.t.id):=rfl;rw[hok]at hbad;clear hok;generalize hln:x.t.conds.length=n at *;have HP:=aA cP;have HA:=aA hA;have HL:=aA hl;have HV:=aA hV;have HLN:=aA hln;clear cP hA hl hV hR hln hpr hR0 hf;unfold ah.val;by_cases c1:x.t.cust<1
 ·exact aEr
 by_cases c2:1073741824<x.t.cust
 ·exact aEr
 by_cases c3:x.t.ser<1
 ·have e:R=false:=aEs;subst e;have HN:=aA hN;clear hN hbad;exact aCq
 by_cases c4:1073741824<x.t.ser
 ·have e:R=false:=aEs;subst e;have HN:=aA hN;clear hN hbad;exact aCq
 have hbd:=hbad _ rfl;rw[decide_eq_true (show 1<=x.t.cust/\x.t.cust<=1073741824 by omega),decide_eq_true (show 1<=x.t.ser/\x.t.ser<=1073741824 by omega),Bool.true_and,Bool.true_and]at hbd;clear hbad;cases hnm:bU x.t.id
 ·rw[hnm,Bool.false_and]at hbd;rw[hnm]at hN;subst hbd;have HN:=aA hN;clear hN hnm;exact aCq
 rw[hnm,Bool.true_and]at hbd;rw[hnm]at hN;have HN:=aA hN;have HR:=aA hbd;clear hN hnm hbd;go_enter func15,ntmps15;go_upto_region 1 with fail
 generalize hw0:World.alloc _ _=w0;have B0:fQ w0 w.heap.size x:=⟨vN⟩;have hb0:aF w w0:=yY;clear hw0;obtain⟨y0,y1,y2,y3⟩:=B0.cells;rw[HLN.out]at y3;go_wp2_with (go_at_call 50;refine (HN.out _).mono ?_;rintro e w2 ⟨rfl,hb2⟩;have B2:=B0.keep hb2;have hbw:=aV hb0 hb2;clear y0 y1 y2 y3;obtain⟨y0,y1,y2,y3⟩:=B2.cells;rw[HLN.out]at y3);clear y0 y1 y2 y3;go_loopw [3] (fun i wr=>∃ k:Nat,k<=n/\i=.int .i64 k/\Hid (V=(x.L.drop k).all (fun y=>pr y.c))/\fQ wr w.heap.size x/\aF w wr) (fun i _=>n-(intOf i).toNat)
 case atStart=>exact⟨0,aB,rfl,aA (by rw[HV.out];rfl),B2,hbw⟩
 case round =>
  obtain⟨k,hk,rfl,HI,B,hb⟩:=hrel;obtain⟨y0,y1,y2,y3⟩:=B.cells;rw[HLN.out]at y3;by_cases hlt:k<n
  ·obtain⟨x1,hx⟩:∃ x1,x.L[k]? = some x1:=⟨_,List.getElem?_eq_getElem gV⟩;obtain⟨_,b,o,hA,hcell⟩:=(HA.out.keep hb).at_ hx;rw[hA]at y3;have hld:=pX wr b (o+k*7) x1 hcell;have hc:=HP.out x1 (List.mem_of_getElem? hx) wr hb;have hk0:(0:Int)<=(k:Int):=aB;have hk1:(k:Int)<(n:Int):=aB;clear hcell hA;generalize ae.val x1.c x1.m=xv at hld hc;have HLD:=aA hld;clear hld;cases hpx:pr x1.c
   ·rw[hpx]at hc;have HC:=aA hc;have hVf:V=false:=by rw[HI.out];exact aIz (fun y=>pr y.c) _ _ _ hx hpx
    subst hVf;clear hc hx hpx;have hRf:R=false:=by rw[HR.out,Bool.and_false]
    subst hRf;go_wp2_with (first | (refine bD rfl _ _ rfl ⟨b,o+k*7,none⟩ xv rfl HLD.out ?_) | (((first | go_at_call 9 | go_at_call 32);refine (HC.out).mono ?_;rintro e w2 ⟨rfl,hb2⟩)));go_ret;exact⟨rfl,aV hb hb2⟩
   ·rw[hpx]at hc;have HC:=aA hc;have hVs:V=(x.L.drop (k+1)).all (fun y=>pr y.c):=by rw[HI.out];exact aIy (fun y=>pr y.c) _ _ _ hx hpx
    have HI2:=aA hVs;clear hc hx hpx hVs;go_wp2_with (first | (refine bD rfl _ _ rfl ⟨b,o+k*7,none⟩ xv rfl HLD.out ?_) | (((first | go_at_call 9 | go_at_call 32);refine (HC.out).mono ?_;rintro e w2 ⟨rfl,hb2⟩)));exact⟨⟨k+1,aB,bg,HI2,B.keep hb2,aV hb hb2⟩,dD⟩
  ·have hVt:V=true:=by rw[HI.out,List.drop_eq_nil_of_le gV];rfl
   subst hVt;by_cases h1:1<=n
   ·have i1:(1:Int)<=(n:Int):=aB;go_wp2;go_ret;exact⟨fV aEt,hb⟩
   ·have i1:¬ (1:Int)<=(n:Int):=aB;go_wp2;go_ret;exact⟨fV aEt,hb⟩
theorem aEu(c:aY)(m:ae)(w:World)(hR:dA w c m)(hc:kD c):Calls prog 70 #[ae.val c m] w (Ret w (.string (bK c))):=by
 have ht:=fun W (hb:aF w W)=>aIx c m W (hR.keep hb) hc.fits hc.ok
 generalize bK c=tx at *;unfold ae.val at *;have HT:=aA ht;clear ht hR hc;go_enter func70,ntmps70;go_wp2_with (go_at_call 131;refine (HT.out _ aJ).mono ?_;rintro e w2 ⟨rfl,hb2⟩);go_ret;exact⟨aH,aJ⟩
theorem aEv(l:List Nat)(hl:dm l)(c:aY)(m:ae)(w:World)(hR:dA w c m)(hc:kD c)(hK:Ks2 w):Calls prog 53 #[.agg (b8 l).toArray,ae.val c m] w (Ret w (.agg (b8 (je l c)).toArray)):=by
 have hO:=fun (g:Nat) (W:World) (hr:aI W 1 (some ⟨g,0,none⟩) 2 ([toN l,bK c].map .string)) (hb:aF w W)=>aEg 45 aK (some ⟨g,0,none⟩) 2 2 [toN l,bK c] W hr aB (by
  intro s h;simp only[List.mem_cons,List.not_mem_nil,or_false]at h;rcases h with rfl | rfl
  ·rw[xg,hl.len];omega
  ·exact hc.tx) (hK.keep hb)
 have hD:=fun W=>aHz l hl W
 have hT:=fun (W:World) (hb:aF w W)=>aEu c m W (hR.keep hb) hc
 have hDS:(b8 (Sha.ofD 45 ([toN l,bK c].map nb))).toArray.size=16:=by rw[List.size_toArray,dU];exact Bv _ _
 have hDO:(b8 (Sha.ofD 45 ([toN l,bK c].map nb))).toArray.all (·.oneCell')=true:=uo _;have hnx:Sha.ofD 45 ([toN l,bK c].map nb)=je l c:=by
  show Sha.ofD 45 [nb (toN l),nb (bK c)]=_;rw[xe hl.lt];rfl
 rw[hnx]at hDS hDO hO;generalize (b8 (je l c)).toArray=DG at *;have hXS:(b8 l).toArray.size=16:=by rw[List.size_toArray,dU];exact hl.len
 generalize (b8 l).toArray=X at *;generalize toN l=sx at *;generalize bK c=tx at *;obtain⟨Y,hY,hYS⟩:∃ Y:Array Value,ae.val c m=.agg Y/\Y.size=7:=⟨_,rfl,rfl⟩;rw[hY]at hT ⊢;have HO:=aA hO;have HD:=aA hD;have HT:=aA hT;have HDS:=aA hDS;have HDO:=aA hDO;have HXS:=aA hXS;have HYS:=aA hYS;have HDI:=aA (show (prog.info? 30).map (·.size)=some DG.size by rw[hDS];exact lh);clear hO hD hT hDS hDO hXS hY hYS hnx hR hc hK hl;go_enter func53,ntmps53;go_upto_region 1 with fail
 generalize hw0:World.alloc _ _=w0;obtain⟨ZS,hZS⟩:∃ ZS:Array Value,ZS=(b8 (List.replicate 16 0)).toArray:=⟨_,rfl⟩;have hS0:NxS w X Y ZS w0:=by
  rw[<-hw0,hZS];exact⟨(iL w _ _ _).1,(iL w _ _ _).2.1,(iL w _ _ _).2.2,aJ,aH⟩
 have HZS:=aA (show ZS.size=16 by rw[hZS];rfl);clear hw0 hZS;have HS0:=aA hS0;refine qm 6 aG aG aG (DL [IsV (.agg X),IsV (.string sx),IsV (.agg Y),IsV (.string tx),DN sx tx,IsV (.agg DG)]) (DL.keep _ (by simp only[qp];repeat' (first | apply And.intro | exact vU _ | exact MJ _ _ | exact trivial))) (NxS w X Y ZS) (HS0.out.keep (Below.drew (Below.refl _ _))) (fun _ _ h hb=>h.keep hb) ?_ ?_
 ·dsimp only[List.take_succ_cons,List.take_zero,mf];refine⟨fun vals W hS hd=>?_,fun vals W hS hd=>?_,fun vals W hS hd=>?_,fun vals W hS hd=>?_,fun vals W hS hd=>?_,fun vals W hS hd=>?_,trivial⟩
  ·(try simp only[bQ,DL,IsV,bV,Region.binds,and_true,true_and]at hd);simp only[aZ,kM,Act.put,ag,bV];(try simp only[hd]);clear hd;have hld:=vP hS.x HXS.out;go_wp2_with (refine bD rfl 30 _ rfl ⟨w.heap.size,0,none⟩ (.agg X) rfl hld ?_);exact⟨rfl,rfl,rfl,aJ⟩
  ·(try simp only[bQ,DL,IsV,bV,Region.binds,and_true,true_and]at hd);simp only[aZ,kM,Act.put,ag,bV];(try simp only[hd]);clear hd;go_wp2_with (go_at_call 107;refine (HD.out _).mono ?_;rintro e w5 ⟨rfl,hb5⟩);exact⟨rfl,rfl,rfl,aJ⟩
  ·(try simp only[bQ,DL,IsV,bV,Region.binds,and_true,true_and]at hd);simp only[aZ,kM,Act.put,ag,bV];(try simp only[hd]);clear hd;exact aEw
  ·(try simp only[bQ,DL,IsV,bV,Region.binds,and_true,true_and]at hd);simp only[aZ,kM,Act.put,ag,bV];(try simp only[hd]);clear hd;have hbW:=hS.b;go_wp2_with (go_at_call 70;refine (HT.out _ hbW).mono ?_;rintro e w5 ⟨rfl,hb5⟩);exact⟨rfl,rfl,rfl,aJ⟩
  ·exact aEx
  ·(try simp only[bQ,DL,IsV,bV,Region.binds,and_true,true_and]at hd);obtain⟨⟨g,e2,hr5⟩,_⟩:=hd;simp only[aZ,kM,Act.put,ag,bV];(try simp only[e2]);have hbW:=hS.b;go_wp2_with (go_at_call 58;refine (HO.out _ _ hr5 hbW).mono ?_;rintro e w5 ⟨rfl,hb5⟩);exact⟨rfl,rfl,rfl,aJ⟩
 ·intro vals w9 hS9 hD9;have e5:vals 5=.agg DG:=hD9 5 aB;simp only[aZ,kM,Act.put,ag,bV];simp only[e5];clear hD9 e5;refine wpList_store_row rfl 30 _ _ rfl (w.heap.size+2) DG rfl rfl _ ZS hS9.z HDI.out (by rw[HZS.out,HDS.out]) HDO.out ?_;go_wp2;refine bodyPost_ret (v:=.agg DG) ?_ rfl ⟨rfl,?_⟩
  ·exact results_cell_row rfl _ _ (w.heap.size+2) _ _ (0,0) _ rfl (setRow_heap _ _ _ _ _ _ hS9.z) underlying30 rfl HDI.out
  ·exact below_setRow hS9.b aB _
theorem RtS.keep3{w W W':World}{K Z:Array Value}{x:ah}(h:RtS w K x Z W)(hb:Below (w.heap.size+3) W W'):RtS w K x Z W' :=
 ⟨(hb.block _ aB).trans h.k,⟨(hb.block _ aB).trans h.t.box⟩,(hb.block _ aB).trans h.z,h.b.trans (hb.mono aB),Nat.lt_of_lt_of_le h.s hb.size⟩
theorem aEy(k:aj)(x:ah)(w:World)(hR:bZ w x)(hc:∀ y∈x.L,kD y.c)(h1:1<=x.t.conds.length)(hn:x.t.conds.length<=1000)(hk:k.secret.size<=1000000)(hid:x.t.id.size<=1000000)(hK:Ks2 w) :
  Calls prog 34 #[k.val,x.val] w (Ret w (.agg (b8 (eU k x.t)).toArray)):=by
 have hl:=hR.conds.len;obtain⟨z,hz⟩:∃ z,x.L[0]? = some z:=⟨_,List.getElem?_eq_getElem aB⟩;have hzc:=hc z (List.mem_of_getElem? hz);have hhead:x.t.conds.headD ed=z.c:=by
  have:=yh hR hz;cases hcs:x.t.conds with
  | nil=>rw[hcs]at this;simp at this
  | cons a r=>rw[hcs]at this;simpa using this
 obtain⟨_,b,o,hA,hcell0⟩:=hR.conds.at_ hz;have hld0:=fun (W:World) (hb:aF w W)=>pX W b o z (fun j u hu=>aW hb (by have:=hcell0 j u hu;simpa using this))
 have hT0:=fun (W:World) (hb:aF w W)=>aEu z.c z.m W ((hR.conds.each z (List.mem_of_getElem? hz)).keep hb) hzc
 have hM:=fun (g:Nat) (W:World) (hr:aI W 1 (some ⟨g,0,none⟩) 2 ([x.t.id,bK z.c].map .string)) (hb:aF w W)=>aHv k 45 aK (some ⟨g,0,none⟩) 2 2 [x.t.id,bK z.c] W hr aB hk (by
  intro s h;simp only[List.mem_cons,List.not_mem_nil,or_false]at h;rcases h with rfl | rfl
  ·exact hid
  ·exact hzc.tx) (hK.keep hb)
 have hfirst:Bq k 45 [x.t.id,bK z.c]=ji k x.t 1:=by
  show _=yN k x.t;unfold yN;rw[hhead]
 rw[hfirst]at hM;have hN:=fun (i:Nat) (y:CoM) (hy:x.L[i]? = some y) (h0:1<=i) (W:World) (hb:aF w W)=>aEv (ji k x.t i) (MP k x.t i) y.c y.m W ((hR.conds.each y (List.mem_of_getElem? hy)).keep hb) (hc y (List.mem_of_getElem? hy)) (hK.keep hb)
 have hN2:∀(i:Nat)(y:CoM),x.L[i]? = some y->1<=i->je (ji k x.t i) y.c=ji k x.t (i+1):=fun i y hy h0=>(Xp h0 (yh hR hy)).symm
 have hcl:=fun (i:Nat) (y:CoM) (hy:x.L[i]? = some y)=>(hR.conds.at_ hy)
 have hld:=fun (i:Nat) (y:CoM) (hy:x.L[i]? = some y) (W:World) (hb:aF w W)=>pX W b (o+i*7) y (fun j u hu=>by
  obtain⟨_,b2,o2,hA2,hcell2⟩:=hR.conds.at_ hy;rw[hA]at hA2;injection hA2 with e
  injection e with e1 e2
  subst e1;subst e2;exact aW hb (hcell2 j u hu))
 rw[<-Xq];generalize hln:x.t.conds.length=n at *;have hsq:∀ i,(b8 (ji k x.t i)).toArray.size=16:=fun i=>by rw[List.size_toArray,dU];exact (MP k x.t i).len
 have hsq1:∀ i,(b8 (ji k x.t i)).toArray.all (·.oneCell')=true:=fun i=>uo _
 obtain⟨SQ,hSQ⟩:∃ SQ:Nat->Array Value,∀ i,SQ i=(b8 (ji k x.t i)).toArray:=⟨fun i=>(b8 (ji k x.t i)).toArray,fun _=>rfl⟩;simp only[<-hSQ]at hsq hsq1 hM hN ⊢;obtain⟨Y,hY,hYS⟩:∃ Y:Array Value,ae.val z.c z.m=.agg Y/\Y.size=7:=⟨_,rfl,rfl⟩;rw[hY]at hT0 hld0;have hKS:k.arr.size=5:=k.arr_size;rw[aj.val_arr]at hM ⊢;generalize k.arr=KX at *;have HT0:=aA hT0;have HM:=aA hM;have HN:=aA hN;have HN2:=aA hN2;have HLD:=aA hld;have HLD0:=aA hld0;have HSQ:=aA hsq;have HSQ1:=aA hsq1;have HLN:=aA hln;have HXA:=aA hA;have HL:=aA hl;have HSS:=aA hSQ;have HKS:=aA hKS;have HYS:=aA hYS;clear hT0 hM hN hN2 hld hld0 hsq hsq1 hln hA hl hSQ hKS hYS hcl hfirst hcell0 hhead hzc hY hz hc hR hK;generalize bK z.c=tx at *;have hidx:x.t.id=x.t.id:=rfl;clear hidx;unfold ah.val;go_enter func34,ntmps34;go_upto_region 1 with fail
 generalize hw0:World.alloc _ _=w0;obtain⟨ZS,hZS⟩:∃ ZS:Array Value,ZS=(b8 (List.replicate 16 0)).toArray:=⟨_,rfl⟩;have hS0:RtS w KX x ZS w0:=by
  rw[<-hw0,hZS];exact⟨(iL w _ _ _).1,⟨(iL w _ _ _).2.1⟩,(iL w _ _ _).2.2,aJ,aH⟩
 have HZS:=aA (show ZS.size=16 by rw[hZS];rfl);have HZV:=aA hZS;clear hw0 hZS;have HS0:=aA hS0;clear hS0;refine qm 11 aG aG aG (DL [IsV (.agg KX),IsV (.pointer (some ⟨w.heap.size+1,2,none⟩)),IsV (.string x.t.id),IsV (.pointer (some ⟨w.heap.size+1,3,none⟩)),IsV (.slice (some ⟨b,o,none⟩) n x.c),IsV (.pointer (some ⟨b,o,none⟩)),IsV (.agg Y),IsV (.string tx),DN x.t.id tx,IsV (.agg (SQ 1)),AlS (w.heap.size+3) ZS]) (DL.keep _ aEz) (RtS w KX x ZS) (HS0.out.keep (Below.drew (Below.refl _ _))) (fun _ _ h hb=>h.keep hb) ?_ ?_
 ·dsimp only[List.take_succ_cons,List.take_zero,mf];refine⟨fun vals W hS hd=>?_,fun vals W hS hd=>?_,fun vals W hS hd=>?_,fun vals W hS hd=>?_,fun vals W hS hd=>?_,fun vals W hS hd=>?_,fun vals W hS hd=>?_,fun vals W hS hd=>?_,fun vals W hS hd=>?_,fun vals W hS hd=>?_,fun vals W hS hd=>?_,trivial⟩
  ·(try simp only[bQ,DL,IsV,bV,Region.binds,and_true,true_and]at hd);simp only[aZ,kM,Act.put,ag,bV];(try simp only[hd]);clear hd;have hld:=iM hS.k ku;exact aFa
  rotate_left 5
  ·(try simp only[bQ,DL,IsV,bV,Region.binds,and_true,true_and]at hd);simp only[aZ,kM,Act.put,ag,bV];(try simp only[hd]);clear hd;have hld:=HLD0.out W hS.b;go_wp2_with (refine bD rfl 27 _ rfl ⟨b,o,none⟩ (.agg Y) rfl hld ?_);exact⟨rfl,rfl,rfl,aJ⟩
  ·(try simp only[bQ,DL,IsV,bV,Region.binds,and_true,true_and]at hd);simp only[aZ,kM,Act.put,ag,bV];(try simp only[hd]);clear hd;have hbW:=hS.b;go_wp2_with (go_at_call 70;refine (HT0.out _ hbW).mono ?_;rintro e w5 ⟨rfl,hb5⟩);exact⟨rfl,rfl,rfl,aJ⟩
  ·exact aEx
  ·(try simp only[bQ,DL,IsV,bV,Region.binds,and_true,true_and]at hd);obtain⟨e0,⟨g,e2,hr5⟩,_⟩:=hd;simp only[aZ,kM,Act.put,ag,bV];(try simp only[e0,e2]);have hbW:=hS.b;go_wp2_with (go_at_call 69;refine (HM.out _ _ hr5 hbW).mono ?_;rintro e w5 ⟨rfl,hb5⟩);exact⟨rfl,rfl,rfl,aJ⟩
  ·(try simp only[bQ,DL,IsV,bV,Region.binds,and_true,true_and]at hd);simp only[aZ,kM,Act.put,ag,bV];(try simp only[hd]);clear hd;have hsz:=hS.s;have hzv:=HZV.out;go_wp2;refine⟨rfl,⟨_,rfl,?_,aB⟩,rfl,aJ⟩;rw[hzv];exact World.alloc_heap_new W _
  all_goals
   (try simp only[bQ,DL,IsV,bV,Region.binds,and_true,true_and]at hd);simp only[aZ,kM,Act.put,ag,bV];(try simp only[hd]);clear hd;(obtain⟨y0,y1,y2,y3⟩:=hS.t.cells;rw[HLN.out,HXA.out]at y3);go_wp2;exact⟨rfl,rfl,rfl,aJ⟩
 ·intro vals w9 hS9 hD9;have e9:vals 9=.agg (SQ 1):=hD9 9 aB;obtain⟨g,e10,hg9,hgz⟩:AlS (w.heap.size+3) ZS (vals 10) w9:=hD9 10 aB;simp only[aZ,kM,Act.put,ag,bV];simp only[e9,e10];clear hD9 e9 e10;have hSI:=fun i=>(show (prog.info? 30).map (·.size)=some (SQ i).size by rw[HSQ.out i];exact lh)
  have HSI:=aA hSI;clear hSI;refine wpList_store_row rfl 30 _ _ rfl g (SQ 1) rfl rfl _ ZS hg9 (HSI.out 1) (by rw[HZS.out,HSQ.out]) (HSQ1.out 1) ?_;generalize hw6:World.setRow _ _ _=w6;have hg6:aQ w6 g 30 (SQ 1):=by rw[<-hw6];exact setRow_heap _ _ _ _ _ _ hg9
  have hb6:Below (w.heap.size+3) w9 w6:=MV;have hS6:=hS9.keep3 hb6;have HG6:=aA hg6;have HS6:=aA hS6;clear hw6 hg9 hS9 HS0 hg6 hS6 hb6;go_wp2;go_loopw [6] (fun iv wr=>∃ i:Nat,1<=i/\i<=n/\iv=.int .i64 i/\Hid (aQ wr g 30 (SQ i))/\Hid (RtS w KX x ZS wr)) (fun iv _=>n-(intOf iv).toNat)
  case atStart=>exact⟨1,aB,h1,rfl,HG6,HS6⟩
  case round =>
   obtain⟨i,hi1,hin,rfl,HG,HS⟩:=hrel;clear HG6 HS6;obtain⟨y0,y1,y2,y3⟩:=HS.out.t.cells;rw[HLN.out,HXA.out]at y3;by_cases hlt:i<n
   ·obtain⟨y,hy⟩:∃ y,x.L[i]? = some y:=⟨_,List.getElem?_eq_getElem gV⟩;have hk0:(0:Int)<=(i:Int):=aB;have hk1:(i:Int)<(n:Int):=aB;have hcN:=HN.out i y hy hi1;have hldi:=HLD.out i y hy;have hnn:=HN2.out i y hy hi1;simp only[hnn,<-HSS.out]at hcN;obtain⟨Yi,hYi,hYiS⟩:∃ Yi:Array Value,ae.val y.c y.m=.agg Yi/\Yi.size=7:=⟨_,rfl,rfl⟩;rw[hYi]at hcN hldi;have HCN:=aA hcN;have HLDI:=aA hldi;clear hcN hldi hnn hYi hYiS hy;go_upto_region 5 with fail
    clear y0 y1 y2 y3;refine qm 7 aG aG aG (DL [IsV (.agg (SQ i)),IsV (.pointer (some ⟨w.heap.size+1,3,none⟩)),IsV (.slice (some ⟨b,o,none⟩) n x.c),IsV (.int .i64 (i:Int)),IsV (.pointer (some ⟨b,o+i*7,none⟩)),IsV (.agg Yi),IsV (.agg (SQ (i+1)))]) (DL.keep _ aEz) (fun W=>aQ W g 30 (SQ i)/\RtS w KX x ZS W) ⟨HG.out.keep (Below.drew (Below.refl _ _)),HS.out.keep (Below.drew (Below.refl _ _))⟩ (fun _ _ h hb=>⟨h.1.keep hb,h.2.keep hb⟩) ?_ ?_
    ·dsimp only[List.take_succ_cons,List.take_zero,mf];refine⟨fun vals W hS hd=>?_,fun vals W hS hd=>?_,fun vals W hS hd=>?_,fun vals W hS hd=>?_,fun vals W hS hd=>?_,fun vals W hS hd=>?_,fun vals W hS hd=>?_,trivial⟩
     ·(try simp only[bQ,DL,IsV,bV,Region.binds,and_true,true_and]at hd);simp only[aZ,kM,Act.put,ag,bV];(try simp only[hd]);clear hd;have hld:=vP hS.1 (HSQ.out i);go_wp2_with (refine bD rfl 30 _ rfl ⟨g,0,none⟩ (.agg (SQ i)) rfl hld ?_);exact⟨rfl,rfl,rfl,aJ⟩
     rotate_left 4
     ·(try simp only[bQ,DL,IsV,bV,Region.binds,and_true,true_and]at hd);simp only[aZ,kM,Act.put,ag,bV];(try simp only[hd]);clear hd;have hld:=HLDI.out W hS.2.b;exact aFb
     ·(try simp only[bQ,DL,IsV,bV,Region.binds,and_true,true_and]at hd);simp only[aZ,kM,Act.put,ag,bV];(try simp only[hd]);clear hd;have hbW:=hS.2.b;go_wp2_with (go_at_call 53;refine (HCN.out _ hbW).mono ?_;rintro e w5 ⟨rfl,hb5⟩);exact⟨rfl,rfl,rfl,aJ⟩
     all_goals
      (try simp only[bQ,DL,IsV,bV,Region.binds,and_true,true_and]at hd);simp only[aZ,kM,Act.put,ag,bV];(try simp only[hd]);clear hd;obtain⟨y0,y1,y2,y3⟩:=hS.2.t.cells;rw[HLN.out,HXA.out]at y3;go_wp2;exact⟨rfl,rfl,rfl,aJ⟩
    ·intro vals w9 hS9 hD9;have e6:vals 6=.agg (SQ (i+1)):=hD9 6 aB;simp only[aZ,kM,Act.put,ag,bV];simp only[e6];clear hD9 e6;refine wpList_store_row rfl 30 _ _ rfl g (SQ (i+1)) rfl rfl _ (SQ i) hS9.1 (HSI.out (i+1)) (by rw[HSQ.out,HSQ.out]) (HSQ1.out (i+1)) ?_;generalize hw6:World.setRow _ _ _=w6;have hg6:aQ w6 g 30 (SQ (i+1)):=by rw[<-hw6];exact setRow_heap _ _ _ _ _ _ hS9.1
     have hb6:Below (w.heap.size+3) w9 w6:=MV;have HG6:=aA hg6;have HS6:=aA (hS9.2.keep3 hb6);clear hw6 hS9 hg6 hb6;go_wp2;exact⟨⟨i+1,aB,aB,bg,HG6,HS6⟩,dD⟩
   ·obtain rfl:i=n:=aB;have hz2:=fun (W:World) (hb:aF wr W)=>(HS.out.keep hb).z
    have hld:=vP HG.out (HSQ.out i);have HZ2:=aA hz2;have HLG:=aA hld;clear hz2 hld;go_wp2_with (first
     | (refine bD rfl 30 _ rfl ⟨g,0,none⟩ (.agg (SQ i)) rfl HLG.out ?_)
     | (refine wpList_store_row rfl _ _ _ rfl (w.heap.size+2) (SQ i) rfl rfl _ ZS HS.out.z (HSI.out i) (by rw[HZS.out,HSQ.out]) (HSQ1.out i) ?_))
    refine bodyPost_ret (v:=.agg (SQ i)) ?_ rfl ⟨rfl,?_⟩
    ·exact results_cell_row rfl _ _ (w.heap.size+2) _ _ (0,0) _ rfl (setRow_heap _ _ _ _ _ _ HS.out.z) underlying30 rfl (HSI.out i)
    ·exact below_setRow HS.out.b aB _
theorem aJc{a b c:aj}(h1:Bl a b=true)(h2:Bl b c=true):Bl a c=true:=by
 unfold Bl at *;simp only[decide_eq_true_eq] at *;omega
theorem aFc:∀ L:List aj,(∀ i x y,L[i]? = some x->L[i+1]? = some y->Bl x y=true)->CZ L
 | [],_=>List.Pairwise.nil
 | [a],_=>List.pairwise_singleton _ _
 | a :: b :: l,h=>by
  have ih:=aFc (b :: l) (fun i x y hx hy=>h (i+1) x y hx hy);have hab:=h 0 a b rfl rfl;refine List.Pairwise.cons (fun z hz=>?_) ih;rcases List.mem_cons.1 hz with rfl | hz
  ·exact hab
  ·exact aJc hab (List.rel_of_pairwise_cons ih hz)
structure RiK(L:List aj)(k:Nat):Prop where
 v:∀ i x,i<k->L[i]? = some x->lQ x=true
 u:∀ i x y,i+1<k->L[i]? = some x->L[i+1]? = some y->Bl x y=true
theorem RiK.zero(L:List aj):RiK L 0:=⟨fun i x h=>aB,fun i x y h=>aB⟩
theorem RiK.step{L:List aj}{k:Nat}{x:aj}(h:RiK L k)(hx:L[k]? = some x)(hv:lQ x=true)(hu:∀ y,0<k->L[k-1]? = some y->Bl y x=true):RiK L (k+1):=by
 refine⟨fun i y hi hy=>?_,fun i a b hi ha hb=>?_⟩
 ·by_cases he:i=k
  ·subst he;rw[hx]at hy;injection hy with hy;rw[<-hy];exact hv
  ·exact h.v i y aB hy
 ·by_cases he:i+1=k
  ·subst he;rw[hx]at hb;injection hb with hb
   rw[<-hb];exact hu a aB (by simpa using ha)
  ·exact h.u i a b aB ha hb
theorem RiK.ok{L:List aj}{k:Nat}(h:RiK L k)(hk:L.length=k):vM L :=
 ⟨aFc L fun i x y hx hy=>h.u i x y (by have:=(List.getElem?_eq_some_iff.1 hy).1;omega) hx hy,fun x hx=>by
  obtain⟨i,hi,rfl⟩:=List.getElem_of_mem hx
  exact h.v i _ aB (List.getElem?_eq_getElem hi)⟩
theorem aCd{fn:Func}{p:Tmp}{ty:TypeId}(h:fn.results=#[.cell p ty])(tmps:Array Value)(w:World)(g:Nat)(cs:Array Value)
  (hp:tmps.getD p undef=.pointer (some ⟨g,0,none⟩)) (hl:(loadVar ty ⟨g,0,none⟩).run prog w=.ok (.agg cs) w):(results fn tmps).run prog w=.ok (.agg cs) w:=by
 rw[Array.getD_eq_getD_getElem?]at hp;simp[results,h,hp,Sem.run_bind,hl,asAddr,Result.andThen]
structure GrS(w:World)(x:ah)(PX:Array Value)(W:World):Prop where
 t:fQ W w.heap.size x
 p:aQ W (w.heap.size+1) 57 PX
 b:aF w W
theorem GrS.keep{w W W':World}{x:ah}{PX:Array Value}(h:GrS w x PX W)(hb:aF W W'):GrS w x PX W':=⟨h.t.keep hb,h.p.keep hb,aV h.b hb⟩
def aCe(t:bz)(er:Int)(w:World)(e:Ending)(w':World):Prop:=aF w w'/\∃ y:ah,e=.returned (.agg (y.cells++[Value.int .i64 er]).toArray)/\bZ w' y/\y.t=t
def aBm(t:bz)(er:Int)(L:List CoM)(w:World)(e:Ending)(w':World):Prop:=aF w w'/\∃ y:ah,e=.returned (.agg (y.cells++[Value.int .i64 er]).toArray)/\bZ w' y/\y.t=t/\(er=0->y.L=L)/\wI w' y.A y.t.conds.length 27/\∀ a,y.A=some a->w.heap.size<=a.block
theorem aJd{W:World}{base n c size:Nat}{e:TypeId}{A:Option Addr}{xs:List Value}(h:W.ownsRow base e size (.slice A n c) n xs):wI W A n e:=by
 intro h0;rcases h.2 with ⟨e1,e2⟩ | ⟨g,cap,cur,e1,_,e2,_⟩
 ·omega
 ·injection e1 with e1 _ _
  exact⟨g,0,cur,(0,0),e1,e2⟩
theorem aBm.weak{t:bz}{er:Int}{L:List CoM}{w w':World}{e:Ending}(h:aBm t er L w e w'):aCe t er w e w':=⟨h.1,h.2.elim fun y hy=>⟨y,hy.1,hy.2.1,hy.2.2.1⟩⟩
theorem aJe:∀ l:List Value,l.length=20->∃ a0 a1 a2 a3 a4 a5 a6 a7 a8 a9 a10 a11 a12 a13 a14 a15 a16 a17 a18 a19:Value,l=[a0,a1,a2,a3,a4,a5,a6,a7,a8,a9,a10,a11,a12,a13,a14,a15,a16,a17,a18,a19]
 | a0 :: a1 :: a2 :: a3 :: a4 :: a5 :: a6 :: a7 :: a8 :: a9 :: a10 :: a11 :: a12 :: a13 :: a14 :: a15 :: a16 :: a17 :: a18 :: a19 :: [],_=>⟨_,_,_,_,_,_,_,_,_,_,_,_,_,_,_,_,_,_,_,_,rfl⟩
theorem aFd(l:List Value)(h:l.length=20)(W:World):(Instr.build 40 #[(0,.agg l.toArray)]).run prog W=.ok (.agg (l++[Value.int .i64 0]).toArray) W:=by
 obtain⟨a0,a1,a2,a3,a4,a5,a6,a7,a8,a9,a10,a11,a12,a13,a14,a15,a16,a17,a18,a19,rfl⟩:=aJe l h;exact run_build W _ _ _ aG
theorem MB:(prog.info? 40).map (·.size)=some 21:=by kernel_rfl
theorem aBu{w:World}{g:Nat}{X:Array Value}{t:TypeId}(hg:w.heap[g]? = some (.cells X t (0,0)))(hs:X.size=21):(loadVar 40 ⟨g,0,none⟩).run prog w=.ok (.agg X) w :=
 run_loadVar_row (P:=prog) w g _ 40 X _ _ hg underlying40 rfl (by rw[hs];exact MB)
theorem aCf{w:World}{y:ah}(h:bZ w y)(er:Int):(y.cells++[Value.int .i64 er]).toArray.size=21:=by rw[List.size_toArray,List.length_append,h.size];rfl
theorem aBv(y:ah)(er:Int):(y.cells++[Value.int .i64 er]).toArray.all (·.oneCell')=true:=by
 have h:=mi y.t.cust y.t.ser y.t.id y.A y.t.conds.length y.c y.t.sl;rw[List.all_toArray]at h ⊢;rw[List.all_append,show y.cells=bn y.t.cust y.t.ser y.t.id y.A y.t.conds.length y.c y.t.sl from rfl,h];rfl
structure RmS(w:World)(K ZM:Array Value)(g:Nat)(X:Array Value)(cg:Nat)(Y:Array Value)(W:World):Prop where
 k:aQ W w.heap.size 23 K
 r:aQ W (w.heap.size+2) 40 ZM
 t:aQ W g 32 X
 c:aQ W cg 27 Y
 b:aF w W
 s:w.heap.size+2<W.heap.size
theorem RmS.keep{w W W':World}{K Z X Y:Array Value}{g cg:Nat}(h:RmS w K Z g X cg Y W)(hb:aF W W'):RmS w K Z g X cg Y W':=⟨h.k.keep hb,h.r.keep hb,h.t.keep hb,h.c.keep hb,aV h.b hb,Nat.lt_of_lt_of_le h.s hb.size⟩
theorem aJf(k:aj)(id:aC)(c:aY)(m:ae)(w:World)(hR:dA w c m)(hf:dE c)(htx:bF c=true->(bK c).size<=1000000)(hk:k.secret.size<=1000000)(hid:id.size<=1000000)(hK:Ks2 w) :
  Calls prog 13 #[k.val,.string id,ae.val c m] w (aBm (jy k id c).1 (jy k id c).2 [⟨c,m⟩] w):=by
 have hsv:=fun W=>aEd k W
 have hld0:=fun (W:World) (h:aQ W w.heap.size 23 k.arr)=>iM h kJ
 obtain⟨R,hRR⟩:∃ R,R=aBm (jy k id c).1 (jy k id c).2 [⟨c,m⟩] w:=⟨_,rfl⟩;rw[<-hRR];have HRR:=aA hRR;clear hRR;rw[aj.val_arr]at hsv ⊢;have hk0:k.arr[0]? = some (.int .i64 k.party):=rfl;have hk1:k.arr[1]? = some (.int .i64 k.ser):=rfl;obtain⟨KX,hKX⟩:∃ KX,KX=k.arr:=⟨_,rfl⟩;rw[<-hKX]at hsv hld0 hk0 hk1 ⊢;have HSV:=aA hsv;have HLD0:=aA hld0;have HKX:=aA hKX;clear hsv hld0 hKX;unfold ae.val;have HONE:=aA X0;go_enter func13,ntmps13;go_upto_region 1 with fail
 generalize hw0:World.alloc _ _=w0;have hkb:aQ w0 w.heap.size 23 KX:=by rw[<-hw0];exact (iL w _ _ _).1
 have hcb:aQ w0 (w.heap.size+1) 27 #[.int .i64 c.fr,.int .i64 c.till,.string c.pat,.slice m.A c.cl.length m.ca,.slice m.B c.co.length m.cb,.slice m.S c.si.length m.cs,.int .i64 c.us]:=by rw[<-hw0];exact (iL w _ _ _).2.1
 have hrb:aQ w0 (w.heap.size+2) 40 aBg:=by rw[<-hw0];exact (iL w _ _ _).2.2
 have hb0:aF w w0:=oH;have hz0:w0.heap.size=w.heap.size+3:=vX;have q0:=hkb.cell hk0;have q1:=hkb.cell hk1;have hldc:=iO hcb rfl;have HZ0:=aA hz0;have hzl:w.heap.size<w0.heap.size:=aB;clear hw0 hk0 hk1 hz0;go_upto_region 2 with (first
  | (refine bD rfl 27 _ rfl ⟨w.heap.size+1,0,none⟩ _ rfl hldc ?_)
  | (refine wpList_store_row rfl 32 _ _ rfl (w0.heap.size+1) #[.int .i64 k.party,.int .i64 k.ser,.string id,.slice (some ⟨w0.heap.size,0,none⟩) 1 1,.int .u8 0,.int .u8 0,.int .u8 0,.int .u8 0,.int .u8 0,.int .u8 0,.int .u8 0,.int .u8 0,.int .u8 0,.int .u8 0,.int .u8 0,.int .u8 0,.int .u8 0,.int .u8 0,.int .u8 0,.int .u8 0] rfl rfl _ bf (heap_alloc2_new w0 _ _) lC rfl (HONE.out _ _ _ _) ?_))
 generalize (Value.agg #[.int .i64 k.party,.int .i64 k.ser,.string id,.slice (some ⟨w0.heap.size,0,none⟩) 1 1,.int .u8 0,.int .u8 0,.int .u8 0,.int .u8 0,.int .u8 0,.int .u8 0,.int .u8 0,.int .u8 0,.int .u8 0,.int .u8 0,.int .u8 0,.int .u8 0,.int .u8 0,.int .u8 0,.int .u8 0,.int .u8 0])=v16;generalize hw1:World.setRow _ _ _=w1;obtain⟨y,hy⟩:∃ y:CoM,y=⟨c,m⟩:=⟨_,rfl⟩;obtain⟨x,hx⟩:∃ x:ah,x=⟨⟨k.party,k.ser,id,[c],fH⟩,some ⟨w0.heap.size,0,none⟩,1,[y]⟩:=⟨_,rfl⟩;have hb01:aF w0 w1:=by rw[<-hw1];exact below_setRow (aU (aU (Below.refl _ _) _) _) aB _
 have hXc:x.cells.toArray=#[.int .i64 k.party,.int .i64 k.ser,.string id,.slice (some ⟨w0.heap.size,0,none⟩) 1 1,.int .u8 0,.int .u8 0,.int .u8 0,.int .u8 0,.int .u8 0,.int .u8 0,.int .u8 0,.int .u8 0,.int .u8 0,.int .u8 0,.int .u8 0,.int .u8 0,.int .u8 0,.int .u8 0,.int .u8 0,.int .u8 0]:=by rw[hx];rfl
 have htb:aQ w1 (w0.heap.size+1) 32 x.cells.toArray:=by rw[<-hw1,hXc];exact setRow_heap _ _ _ _ _ _ (heap_alloc2_new w0 _ _)
 have hcb1:aQ w1 w0.heap.size 27 y.cells.toArray:=by
  have h1:aQ (w0.alloc (.cells #[.int .i64 c.fr,.int .i64 c.till,.string c.pat,.slice m.A c.cl.length m.ca,.slice m.B c.co.length m.cb,.slice m.S c.si.length m.cs,.int .i64 c.us] 27)) w0.heap.size 27 y.cells.toArray:=by rw[hy];exact heap_alloc_new w0 _
  refine h1.keep ?_;rw[<-hw1];exact below_setRow (fJ _ _) aH _
 have hcr:=NH hcb1;have hbw1:aF w w1:=aV hb0 hb01;have hTR:bZ w1 x:=by
  rw[hx];refine⟨by rw[hy];rfl,⟨rfl,hcr,fun z hz=>?_⟩,JW,Nat.le_refl _⟩;rw[List.mem_singleton.1 hz,hy];exact hR.keep hbw1
 have hS1:RmS w KX aBg (w0.heap.size+1) x.cells.toArray w0.heap.size y.cells.toArray w1:=⟨hkb.keep hb01,hrb.keep hb01,htb,hcb1,hbw1,by have:=HZ0.out;have:=hb01.size;omega⟩;have hfL:∀ z∈x.L,dE z.c:=by
  intro z hz;rw[hx]at hz;rw[List.mem_singleton.1 hz,hy];exact hf
 have hxt:x.t=⟨k.party,k.ser,id,[c],fH⟩:=by rw[hx]
 have htv:=fun (W:World) (hb:aF w1 W)=>aJb x W (hTR.keep hb) hfL (by rw[hxt];exact hid) (by rw[hxt];show 1<=_;omega)
 have hXS:x.cells.toArray.size=20:=by rw[List.size_toArray];exact hTR.size
 obtain⟨g,hg⟩:∃ g,g=w0.heap.size+1:=⟨_,rfl⟩;rw[<-hg]at hS1 ⊢;have hgg:w.heap.size+3<=g/\w0.heap.size<g/\w.heap.size+2<w0.heap.size:=by have:=HZ0.out;omega
 clear hg;have hmint:jy k id c=if lQ k&&gX x.t then (⟨k.party,k.ser,id,[c],eU k x.t⟩,0) else (iK,1):=by unfold jy;rw[hxt]
 have hzon:((#[.int .i64 0,.int .i64 0,.string ⟨#[]⟩,.slice none 0 0,.int .u8 0,.int .u8 0,.int .u8 0,.int .u8 0,.int .u8 0,.int .u8 0,.int .u8 0,.int .u8 0,.int .u8 0,.int .u8 0,.int .u8 0,.int .u8 0,.int .u8 0,.int .u8 0,.int .u8 0,.int .u8 0,.int .i64 1]:Array Value):Array Value).all (·.oneCell')=true:=qB;have HZON:=aA hzon;have HXS:=aA hXS;have HS1:=aA hS1;have HMI:=aA hmint;clear hzon hXS hS1 hmint hXc htb hcr hcb1 hkb hcb hrb hb0 hb01 hldc q0 q1 hzl hw1;have hldt1:=dY HS1.out.t HXS.out;have HX:=aA hx;have HYY:=aA hy;clear hx hy;cases hv2:gX x.t
 ·have e1:jy k id c=(iK,1):=by rw[HMI.out,hv2,Bool.and_false];rfl
  have HE1:=aA e1;rw[hv2]at htv;have HTV:=aA htv;clear e1 HMI htv hv2 hK hTR hfL hxt;go_wp2_with (first | (refine bD rfl 32 _ rfl ⟨g,0,none⟩ (.agg x.cells.toArray) rfl hldt1 ?_) | (go_at_call 15;refine (HTV.out _ (Below.refl _ _)).mono ?_;rintro e w2 ⟨rfl,hb2⟩;have HS2:=aA (HS1.out.keep hb2);have HLK:=aA (HLD0.out w2 (HS1.out.keep hb2).k)) | (refine wpList_store_row rfl 40 _ _ rfl (w.heap.size+2) (#[.int .i64 0,.int .i64 0,.string ⟨#[]⟩,.slice none 0 0,.int .u8 0,.int .u8 0,.int .u8 0,.int .u8 0,.int .u8 0,.int .u8 0,.int .u8 0,.int .u8 0,.int .u8 0,.int .u8 0,.int .u8 0,.int .u8 0,.int .u8 0,.int .u8 0,.int .u8 0,.int .u8 0,.int .i64 1]:Array Value) rfl rfl _ aBg HS2.out.r MB rfl HZON.out ?_));refine bodyPost_ret (v:=.agg (#[.int .i64 0,.int .i64 0,.string ⟨#[]⟩,.slice none 0 0,.int .u8 0,.int .u8 0,.int .u8 0,.int .u8 0,.int .u8 0,.int .u8 0,.int .u8 0,.int .u8 0,.int .u8 0,.int .u8 0,.int .u8 0,.int .u8 0,.int .u8 0,.int .u8 0,.int .u8 0,.int .u8 0,.int .i64 1]:Array Value)) ?_ rfl ?_
  ·exact aCd rfl _ _ (w.heap.size+2) _ rfl (aBu (setRow_heap _ _ _ _ _ _ HS2.out.r) rfl)
  ·rw[HRR.out,HE1.out];exact⟨below_setRow HS2.out.b aB _,vZ,rfl,yz _,rfl,fun h=>absurd h aK,fun h=>absurd h (Nat.lt_irrefl 0),fun a ha=>jd⟩
 rw[hv2]at htv;have HTV:=aA htv;cases hv1:lQ k
 ·have e1:jy k id c=(iK,1):=by rw[HMI.out,hv1];rfl
  have HE1:=aA e1;rw[hv1]at HSV;clear e1 HMI htv hv1 hv2 hK hTR hfL hxt;go_wp2_with (first | (refine bD rfl 32 _ rfl ⟨g,0,none⟩ (.agg x.cells.toArray) rfl hldt1 ?_) | (go_at_call 15;refine (HTV.out _ (Below.refl _ _)).mono ?_;rintro e w2 ⟨rfl,hb2⟩;have HS2:=aA (HS1.out.keep hb2);have HLK:=aA (HLD0.out w2 (HS1.out.keep hb2).k)) | (first | (refine bD rfl 23 _ rfl ⟨w.heap.size,0,none⟩ (.agg KX) rfl HLK.out ?_) | (go_big_want;refine jE 23 _ rfl ⟨w.heap.size,0,none⟩ (.agg KX) rfl HLK.out ?_;simp only[Act.put,ag])) | (go_at_call 31;refine (HSV.out _).mono ?_;rintro e w3 ⟨rfl,hb3⟩;have HS3:=aA (HS2.out.keep hb3)) | (refine wpList_store_row rfl 40 _ _ rfl (w.heap.size+2) (#[.int .i64 0,.int .i64 0,.string ⟨#[]⟩,.slice none 0 0,.int .u8 0,.int .u8 0,.int .u8 0,.int .u8 0,.int .u8 0,.int .u8 0,.int .u8 0,.int .u8 0,.int .u8 0,.int .u8 0,.int .u8 0,.int .u8 0,.int .u8 0,.int .u8 0,.int .u8 0,.int .u8 0,.int .i64 1]:Array Value) rfl rfl _ aBg HS3.out.r MB rfl HZON.out ?_));refine bodyPost_ret (v:=.agg (#[.int .i64 0,.int .i64 0,.string ⟨#[]⟩,.slice none 0 0,.int .u8 0,.int .u8 0,.int .u8 0,.int .u8 0,.int .u8 0,.int .u8 0,.int .u8 0,.int .u8 0,.int .u8 0,.int .u8 0,.int .u8 0,.int .u8 0,.int .u8 0,.int .u8 0,.int .u8 0,.int .u8 0,.int .i64 1]:Array Value)) ?_ rfl ?_
  ·exact aCd rfl _ _ (w.heap.size+2) _ rfl (aBu (setRow_heap _ _ _ _ _ _ HS3.out.r) rfl)
  ·rw[HRR.out,HE1.out];exact⟨below_setRow HS3.out.b aB _,vZ,rfl,yz _,rfl,fun h=>absurd h aK,fun h=>absurd h (Nat.lt_irrefl 0),fun a ha=>jd⟩
 rw[hv1]at HSV;have e1:jy k id c=(⟨k.party,k.ser,id,[c],eU k x.t⟩,0):=by rw[HMI.out,hv1,hv2];rfl
 have HE1:=aA e1;have hok:=(vH _).1 hv2;have hcv:bF c=true:=hok.all c (by rw[hxt];exact List.mem_singleton.2 rfl);have hcok:∀ z∈x.L,kD z.c:=by
  intro z hz;rw[HX.out]at hz;rw[List.mem_singleton.1 hz,HYY.out];exact⟨hf,hcv,htx hcv⟩
 have hrt:=fun (W:World) (hb:aF w1 W)=>aEy k x W (hTR.keep hb) hcok (by rw[hxt];exact Nat.le_refl 1) (by rw[hxt];show 1<=_;omega) hk (by rw[hxt];exact hid) (hK.keep (aV hbw1 hb))
 rw[aj.val_arr,<-HKX.out]at hrt;have hbr:=fun (W:World) (hS:RmS w KX aBg g x.cells.toArray w0.heap.size y.cells.toArray W)=>And.intro (iM hS.k (by rw[HKX.out];exact kJ)) (dY hS.t HXS.out)
 obtain⟨S,hS⟩:∃ S,S=eU k x.t:=⟨_,rfl⟩;have hSok:dm S:=by rw[hS];exact Bz k x.t
 rw[<-hS]at hrt HE1;have HRT:=aA hrt;have HBR:=aA hbr;have HSK:=aA hSok;have hbl:∀ v∈b8 S,v.oneCell'=true:=nC S;have hbs:(prog.info? 30).map (·.size)=some (b8 S).length:=by rw[dU,hSok.len];exact lh
 have hsp:splice x.cells 4 (b8 S)=bn x.t.cust x.t.ser x.t.id x.A x.t.conds.length x.c S:=zT _ _ _ _ _ _ _ _ hTR.sl.len hSok.len;have hcl:x.cells.length=20:=hTR.size;obtain⟨z,hz⟩:∃ z:ah,z=⟨⟨k.party,k.ser,id,[c],S⟩,x.A,x.c,x.L⟩:=⟨_,rfl⟩;have hnew:∀ W,aF w W->aQ W w0.heap.size 27 y.cells.toArray->bZ W z:=fun W hb hc=>by
  rw[hz,HX.out];refine⟨by rw[HYY.out];rfl,⟨rfl,NH hc,fun z hz=>?_⟩,hSok,Nat.le_refl _⟩;rw[List.mem_singleton.1 hz,HYY.out];exact hR.keep hb
 have hval:bn x.t.cust x.t.ser x.t.id x.A x.t.conds.length x.c S=z.cells:=by rw[hz,hxt];rfl
 have hzt:z.t=⟨k.party,k.ser,id,[c],S⟩:=by rw[hz]
 have hzl:z.L=[⟨c,m⟩]:=by rw[hz];show x.L=_;rw[HX.out,HYY.out]
 have hza:∀ a,z.A=some a->w.heap.size<=a.block:=by
  rw[hz];show ∀ a,x.A=some a->_;rw[HX.out];rintro a h;injection h with h
  rw[<-h];show w.heap.size<=w0.heap.size;have:=HZ0.out;omega
 have hzo:∀ W,aQ W w0.heap.size 27 y.cells.toArray->wI W z.A z.t.conds.length 27:=fun W hc=>by
  rw[hz,HX.out];exact fun _=>⟨_,_,_,_,rfl,hc⟩
 have HZL:=aA hzl;have HZA:=aA hza;have HZO:=aA hzo;clear hzl hza hzo;rw[hval]at hsp;have hzs:z.cells.length=20:=(hnew _ HS1.out.b HS1.out.c).size;have hbm:=fun W=>aFd z.cells hzs W
 have hms:=aCf (hnew _ HS1.out.b HS1.out.c) 0;have hmo:=aBv z 0;have HBL:=aA hbl;have HBS:=aA hbs;have HSP:=aA hsp;have HCL:=aA hcl;have HNEW:=aA hnew;have HZT:=aA hzt;have HZS:=aA hzs;have HBM:=aA hbm;have HMS:=aA hms;have HMO:=aA hmo;clear hS hbl hbs hsp hcl hnew hval hrt hbr hSok htv hcok hok hcv hv1 hv2 e1 hK hTR hfL HMI hxt hz hzt hzs hbm hms hmo;generalize hXN:(z.cells++[Value.int .i64 0]).toArray=XN at *;have HXN:=aA hXN;clear hXN;go_upto_region 5 with (first | (refine bD rfl 32 _ rfl ⟨g,0,none⟩ (.agg x.cells.toArray) rfl hldt1 ?_) | (go_at_call 15;refine (HTV.out _ (Below.refl _ _)).mono ?_;rintro e w2 ⟨rfl,hb2⟩;have HS2:=aA (HS1.out.keep hb2);have HLK:=aA (HLD0.out w2 (HS1.out.keep hb2).k)) | (first | (refine bD rfl 23 _ rfl ⟨w.heap.size,0,none⟩ (.agg KX) rfl HLK.out ?_) | (go_big_want;refine jE 23 _ rfl ⟨w.heap.size,0,none⟩ (.agg KX) rfl HLK.out ?_;simp only[Act.put,ag])) | (go_at_call 31;refine (HSV.out _).mono ?_;rintro e w3 ⟨rfl,hb3⟩;have HS3:=aA (HS2.out.keep hb3)))
 have hld4:=HBR.out w3 HS3.out;obtain⟨hk4,ht4⟩:=hld4;have hb13:=aV hb2 hb3;go_upto_region 6 with (first
  | (refine bD rfl 23 _ rfl ⟨w.heap.size,0,none⟩ (.agg KX) rfl hk4 ?_)
  | (refine bD rfl 32 _ rfl ⟨g,0,none⟩ (.agg x.cells.toArray) rfl ht4 ?_)
  | (go_at_call 34;refine (HRT.out _ hb13).mono ?_;rintro e w4 ⟨rfl,hb4⟩)
  | (refine wQ rfl 30 _ _ rfl g 4 (b8 S) rfl rfl _ x.cells (HS3.out.keep hb4).t HBS.out (by rw[dU,HSK.out.len,HCL.out];omega) HBL.out ?_))
 dsimp only[Act.put];rw[HSP.out];generalize hw5:World.setRow _ _ _=w5;have hb5:Below g w4 w5:=by rw[<-hw5];exact below_setRow (Below.refl _ _) (Nat.le_refl _) _
 have ht5:aQ w5 g 32 z.cells.toArray:=by rw[<-hw5];exact setRow_heap _ _ _ _ _ _ (HS3.out.keep hb4).t
 have hr5:aQ w5 (w.heap.size+2) 40 aBg:=(hb5.block _ aB).trans (HS3.out.keep hb4).r;have hc5:aQ w5 w0.heap.size 27 y.cells.toArray:=(hb5.block _ hgg.2.1).trans (HS3.out.keep hb4).c;have hbw5:aF w w5:=(HS3.out.keep hb4).b.trans (hb5.mono aB);have hldn:=dY ht5 (by rw[List.size_toArray,HZS.out]);have HLN:=aA hldn;have HR5:=aA hr5;have HC5:=aA hc5;have HB5:=aA hbw5;clear hw5 hb5 ht5 hr5 hc5 hbw5 hldn hk4 ht4;go_wp2_with (first
  | (refine bD rfl 32 _ rfl ⟨g,0,none⟩ (.agg z.cells.toArray) rfl HLN.out ?_)
  | (refine aCa rfl 40 _ rfl #[(0,.agg z.cells.toArray)] aG _ (HBM.out _) ?_)
  | (refine wpList_store_row rfl 40 _ _ rfl (w.heap.size+2) XN rfl rfl _ aBg HR5.out (by rw[HMS.out];exact MB) (by rw[HMS.out];rfl) HMO.out ?_))
 refine bodyPost_ret (v:=.agg XN) ?_ rfl ?_
 ·exact aFe
 ·rw[HRR.out,HE1.out];have hbw6:aF w (w5.setRow (w.heap.size+2) XN):=below_setRow HB5.out aB _;exact⟨hbw6,z,by rw[HXN.out],HNEW.out _ hbw6 ((setRow_other _ _ _ _ aB).trans HC5.out),HZT.out,fun _=>HZL.out,HZO.out _ ((setRow_other _ _ _ _ aB).trans HC5.out),HZA.out⟩
end Go.Proofs.YtlkbkclnbppigaaGreatDoor
