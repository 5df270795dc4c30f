/- The seals of a signed address, as an iterator. -/
import Derived.Test.YtlkbkclnbppigaaGreatDoorIZ30
set_option maxHeartbeats 16000000
namespace Go.Proofs.YtlkbkclnbppigaaGreatDoor
open Tryz
open Go.RowKit Go.Sort
set_option linter.unusedVariables false
set_option linter.unusedSimpArgs false
set_option maxRecDepth 100000
structure ItS(w:World)(kb tb:Nat)(K:Array Value)(x:ah)(W:World):Prop where
 b:aF w W
 k:aQ W kb 23 K
 t:fQ W tb x
theorem ItS.keep{w W W':World}{kb tb:Nat}{K:Array Value}{x:ah}(h:ItS w kb tb K x W)(hb:aF W W'):ItS w kb tb K x W':=⟨aV h.b hb,h.k.keep hb,h.t.keep hb⟩
theorem ItS.low{w W W':World}{kb tb B:Nat}{K:Array Value}{x:ah}(h:ItS w kb tb K x W)(hb:Below B W W')(hw:w.heap.size<=B)(hk:kb<B)(ht:tb<B):ItS w kb tb K x W' :=
 ⟨h.b.trans (hb.mono hw),(hb.block _ hk).trans h.k,⟨(hb.block _ ht).trans h.t.box⟩⟩
theorem vV{W:World}{g:Nat}{t:TypeId}{X:Array Value}(h:aQ W g t X):g<W.heap.size:=by
 rcases Nat.lt_or_ge g W.heap.size with h' | h'
 ·exact h'
 ·unfold aQ at h;rw[Array.getElem?_eq_none h']at h;cases h
theorem ItS.round{w W W':World}{kb tb ob n0 B:Nat}{K:Array Value}{x:ah}(h:ItS w kb tb K x W)(hb:nY ob n0 B W W')(hw:w.heap.size<=ob)(hk:ob<kb/\kb<n0)(ht:ob<tb/\tb<n0):ItS w kb tb K x W' :=
 ⟨h.b.trans (hb.low.mono hw),(hb.same _ hk.1 (.inl hk.2) (vV h.k)).trans h.k,⟨(hb.same _ ht.1 (.inl ht.2) (vV h.t.box)).trans h.t.box⟩⟩
def vW(SQ:Nat->Array Value)(n:Nat):List Value:=(List.range n).map fun i=>.agg (SQ (i+1))
theorem yj{SQ:Nat->Array Value}{n i:Nat}(h:i<n):(vW SQ n)[i]? = some (.agg (SQ (i+1))):=by
 unfold vW;rw[List.getElem?_map,List.getElem?_range h];rfl
theorem yu(SQ:Nat->Array Value)(n:Nat):(vW SQ n).length=n:=by simp[vW]
theorem Xw(k:aj)(x:ah)(w w1:World)(kb tb ob:Nat)(hR:bZ w x)(hc:∀ y∈x.L,kD y.c)(h1:1<=x.t.conds.length)(hn:x.t.conds.length<=1000)(hk:k.secret.size<=1000000)(hid:x.t.id.size<=1000000)(hK:Ks w)(hE:Env w)(hTb:Tab w)
  (SQ:Nat->Array Value) (hSQ:∀ i,SQ i=(b8 (ji k x.t i)).toArray) (hI0:ItS w kb tb k.arr x w1) (hw:w.heap.size<=ob) (hkb:ob<kb/\kb<w1.heap.size) (htb:ob<tb/\tb<w1.heap.size) :
  L8 prog 159 #[.pointer (some ⟨kb,0,none⟩),.pointer (some ⟨tb,0,none⟩)] (vW SQ x.t.conds.length) ob w1:=by
 have hl:=hR.conds.len;have hcap:=hR.cap;obtain⟨z,hz⟩:∃ z,x.L[0]? = some z:=⟨_,List.getElem?_eq_getElem aB⟩;have hzc:=hc z (List.mem_of_getElem? hz);have hhead:x.t.conds.headD ed=z.c:=by
  have:=yh hR hz;cases hcs:x.t.conds with
  | nil=>rw[hcs]at this;simp at this
  | cons a r=>rw[hcs]at this;simpa using this
 obtain⟨_,b,o,hA,hcell0⟩:=hR.conds.at_ hz;have hld0:=fun (W:World) (hb:aF w W)=>pX W b o z (fun j u hu=>aW hb (by have:=hcell0 j u hu;simpa using this))
 have hT0:=fun (W:World) (hb:aF w W)=>DK z.c z.m W ((hR.conds.each z (List.mem_of_getElem? hz)).keep hb) hzc (hE.keep hb) (hTb.keep hb)
 have hM:=fun (g:Nat) (W:World) (hr:aI W 1 (some ⟨g,0,none⟩) 2 ([x.t.id,bK z.c].map .string)) (hb:aF w W)=>Xi k 45 aK (some ⟨g,0,none⟩) 2 2 [x.t.id,bK z.c] W hr aB hk (by
  intro s h;simp only[List.mem_cons,List.not_mem_nil,or_false]at h;rcases h with rfl | rfl
  ·exact hid
  ·exact hzc.tx) (hK.keep hb)
 have hfirst:Bq k 45 [x.t.id,bK z.c]=ji k x.t 1:=by
  show _=yN k x.t;unfold yN;rw[hhead]
 rw[hfirst]at hM;have hN:=fun (i:Nat) (y:CoM) (hy:x.L[i]? = some y) (h0:1<=i) (W:World) (hb:aF w W)=>ML (ji k x.t i) (MP k x.t i) y.c y.m W ((hR.conds.each y (List.mem_of_getElem? hy)).keep hb) (hc y (List.mem_of_getElem? hy)) (hE.keep hb) (hTb.keep hb) (hK.keep hb)
 have hN2:∀(i:Nat)(y:CoM),x.L[i]? = some y->1<=i->je (ji k x.t i) y.c=ji k x.t (i+1):=fun i y hy h0=>(Xp h0 (yh hR hy)).symm
 have hld:=fun (i:Nat) (y:CoM) (hy:x.L[i]? = some y) (W:World) (hb:aF w W)=>pX W b (o+i*7) y (fun j u hu=>by
  obtain⟨_,b2,o2,hA2,hcell2⟩:=hR.conds.at_ hy;rw[hA]at hA2;injection hA2 with e
  injection e with e1 e2
  subst e1;subst e2;exact aW hb (hcell2 j u hu))
 generalize hln:x.t.conds.length=n at *;have hsq:∀ i,(SQ i).size=16:=fun i=>MS
 have hsq1:∀ i,(SQ i).all (·.oneCell')=true:=fun i=>by rw[hSQ];exact uo _
 simp only[<-hSQ]at hM hN;obtain⟨Y,hY,hYS⟩:∃ Y:Array Value,ae.val z.c z.m=.agg Y/\Y.size=7:=⟨_,rfl,rfl⟩;rw[hY]at hT0 hld0;have hKS:k.arr.size=5:=k.arr_size;rw[aj.val_arr]at hM;generalize k.arr=KX at *;have HT0:=aA hT0;have HM:=aA hM;have HN:=aA hN;have HN2:=aA hN2;have HLD:=aA hld;have HLD0:=aA hld0;have HSQ:=aA hsq;have HSQ1:=aA hsq1;have HLN:=aA hln;have HXA:=aA hA;have HL:=aA hl;have HSS:=aA hSQ;have HKS:=aA hKS;have HYS:=aA hYS;clear hT0 hM hN hN2 hld hld0 hsq hsq1 hln hA hl hSQ hKS hYS hfirst hcell0 hhead hzc hY hz hc hR hK hE hTb;generalize bK z.c=tx at *;intro l J Jx W hW hT hY hJ0;have hS0:ItS w kb tb KX x W:=hI0.low hW (hI0.b.size) hkb.2 htb.2;have HY:=aA hY;have HT:=aA hT;clear hY hT hI0;refine callsIn_wide.2 ?_;show Calls prog 159 #[.func (.yield l) #[] #[],.pointer (some ⟨kb,0,none⟩),.pointer (some ⟨tb,0,none⟩)] W _;go_enter func159,ntmps159;go_upto_region 0 with fail
 obtain⟨ZS,hZS⟩:∃ ZS:Array Value,ZS=(b8 (List.replicate 16 0)).toArray:=⟨_,rfl⟩;have HZS:=aA (show ZS.size=16 by rw[hZS];rfl);have HZV:=aA hZS;clear hZS;have HS0:=aA hS0;clear hS0;refine qm 11 aG aG aG (DL [IsV (.agg KX),IsV (.pointer (some ⟨tb,2,none⟩)),IsV (.string x.t.id),IsV (.pointer (some ⟨tb,3,none⟩)),IsV (.slice (some ⟨b,o,none⟩) n x.c),IsV (.pointer (some ⟨b,o,none⟩)),IsV (.agg Y),IsV (.string tx),DN x.t.id tx,IsV (.agg (SQ 1)),AlS W.heap.size ZS]) (DL.keep _ (by simp only[qp];repeat' (first | apply And.intro | exact vU _ | exact MJ _ _ | exact Xo _ _ | exact trivial))) (fun W'=>aF W W'/\ItS w kb tb KX x W') ⟨Below.drew (Below.refl _ _),HS0.out.keep (Below.drew (Below.refl _ _))⟩ (fun _ _ h hb=>⟨aV h.1 hb,h.2.keep hb⟩) ?_ ?_
 ·dsimp only[List.take_succ_cons,List.take_zero,mf];refine⟨fun vals W2 hS hd=>?_,fun vals W2 hS hd=>?_,fun vals W2 hS hd=>?_,fun vals W2 hS hd=>?_,fun vals W2 hS hd=>?_,fun vals W2 hS hd=>?_,fun vals W2 hS hd=>?_,fun vals W2 hS hd=>?_,fun vals W2 hS hd=>?_,fun vals W2 hS hd=>?_,fun vals W2 hS hd=>?_,trivial⟩
  ·(try simp only[bQ,DL,IsV,bV,Region.binds,and_true,true_and]at hd);simp only[aZ,bH,Act.put];(try simp only[hd]);clear hd;have hld:=iM hS.2.k ku;go_wp2_with (refine bD rfl 23 _ rfl ⟨kb,0,none⟩ (.agg KX) rfl hld ?_);exact⟨rfl,rfl,rfl,aJ⟩
  rotate_left 5
  ·(try simp only[bQ,DL,IsV,bV,Region.binds,and_true,true_and]at hd);simp only[aZ,bH,Act.put];(try simp only[hd]);clear hd;have hld:=HLD0.out W2 hS.2.b;go_wp2_with (refine bD rfl 27 _ rfl ⟨b,o,none⟩ (.agg Y) rfl hld ?_);exact⟨rfl,rfl,rfl,aJ⟩
  ·(try simp only[bQ,DL,IsV,bV,Region.binds,and_true,true_and]at hd);simp only[aZ,bH,Act.put];(try simp only[hd]);clear hd;have hbW:=hS.2.b;go_wp2_with (go_at_call 71;refine (HT0.out _ hbW).mono ?_;rintro e w5 ⟨rfl,hb5⟩);exact⟨rfl,rfl,rfl,aJ⟩
  ·exact yg
  ·(try simp only[bQ,DL,IsV,bV,Region.binds,and_true,true_and]at hd);obtain⟨e0,⟨g,e2,hr5⟩,_⟩:=hd;simp only[aZ,bH,Act.put];(try simp only[e0,e2]);have hbW:=hS.2.b;go_wp2_with (go_at_call 160;refine (HM.out _ _ hr5 hbW).mono ?_;rintro e w5 ⟨rfl,hb5⟩);exact⟨rfl,rfl,rfl,aJ⟩
  ·(try simp only[bQ,DL,IsV,bV,Region.binds,and_true,true_and]at hd);simp only[aZ,bH,Act.put];(try simp only[hd]);clear hd;have hsz:=hS.1.size;have hzv:=HZV.out;go_wp2;refine⟨rfl,⟨_,rfl,?_,aB⟩,rfl,aJ⟩;rw[hzv];exact World.alloc_heap_new W2 _
  all_goals
   (try simp only[bQ,DL,IsV,bV,Region.binds,and_true,true_and]at hd);simp only[aZ,bH,Act.put];(try simp only[hd]);clear hd;obtain⟨y0,y1,y2,y3⟩:=hS.2.t.cells;rw[HLN.out,HXA.out]at y3;go_wp2;exact⟨rfl,rfl,rfl,aJ⟩
 ·intro vals w9 hS9 hD9;have e9:vals 9=.agg (SQ 1):=hD9 9 aB;obtain⟨g,e10,hg9,hgz⟩:AlS W.heap.size ZS (vals 10) w9:=hD9 10 aB;simp only[aZ,bH,Act.put];simp only[e9,e10];clear hD9 e9 e10;have hSI:=fun i=>(show (prog.info? 30).map (·.size)=some (SQ i).size by rw[HSQ.out i];exact lh)
  have HSI:=aA hSI;clear hSI;have hws:=hW.size;refine wpList_store_row rfl 30 _ _ rfl g (SQ 1) rfl rfl _ ZS hg9 (HSI.out 1) (by rw[HZS.out,HSQ.out]) (HSQ1.out 1) ?_;generalize hw6:World.setRow _ _ _=w6;have hg6:aQ w6 g 30 (SQ 1):=by rw[<-hw6];exact setRow_heap _ _ _ _ _ _ hg9
  have hb6:Below W.heap.size w9 w6:=MV;have hS6:=hS9.2.low hb6 aB aB aB;have hbW6:aF W w6:=hS9.1.trans hb6;have hJ6:=HT.out _ _ _ hJ0 hbW6;have HW6:=aA hbW6.size;have HG6:=aA hg6;have HS6:=aA hS6;have HJ6:=aA hJ6;clear hw6 hg9 hS9 HS0 hg6 hS6 hb6 hbW6 hJ6 hJ0;obtain⟨y0,y1,y2,y3⟩:=HS6.out.t.cells;rw[HLN.out,HXA.out]at y3;have i1:(1:Int)<=(n:Int):=aB;go_upto_region 1 with fail
  dsimp only[Act.put];go_cut [19,20,21] (fun v19 v20 v21 wx=>∃ o' c',v19=.slice (some ⟨b,o',none⟩) (n-1) c'/\(1<n->o'=o+7)/\v20=.int .i64 ((n-1:Nat):Int)/\v21=.int .i64 0/\wx=w6)
  case first =>
   exact MW
  case rest =>
   obtain⟨o',c',rfl,ho',rfl,rfl,rfl⟩:=hcut;clear y0 y1 y2 y3;have hobW:ob<W.heap.size:=aB;have hwr6:=HW6.out;clear i1;go_wp2;go_loopw [21] (fun iv wr=>∃ j:Nat,j<=n-1/\iv=.int .i64 j/\W.heap.size<=wr.heap.size/\Hid (aQ wr g 30 (SQ (j+1)))/\Hid (ItS w kb tb KX x wr)/\Hid (J j wr)) (fun iv _=>(n-1)-(intOf iv).toNat)
   case atStart=>exact⟨0,aB,rfl,hwr6,HG6,HS6,HJ6⟩
   case round =>
    obtain⟨j,hj,rfl,hwr,HG,HS,HJ⟩:=hrel;clear HG6 HS6 HJ6;by_cases hlt:j<n-1
    ·obtain⟨y,hy⟩:∃ y,x.L[j+1]? = some y:=⟨_,List.getElem?_eq_getElem gV⟩;have hoo:=ho' aB;subst hoo;have hcN:=HN.out (j+1) y hy aB;have hldi:=HLD.out (j+1) y hy wr HS.out.b;have hnn:=HN2.out (j+1) y hy aB;simp only[hnn,<-HSS.out]at hcN;rw[show o+(j+1)*7=o+7+j*7 by omega]at hldi;obtain⟨Yi,hYi,hYiS,hYiO⟩:∃ Yi:Array Value,ae.val y.c y.m=.agg Yi/\Yi.size=7/\Yi.all (·.oneCell')=true:=⟨_,rfl,rfl,qB⟩;rw[hYi]at hcN hldi;have HCN:=aA hcN;have HLDI:=aA hldi;have HYO:=aA hYiO;have HYI:=aA (show (prog.info? 27).map (·.size)=some Yi.size by rw[hYiS];kernel_rfl);have HYIS:=aA hYiS;have hk0:(0:Int)<=(j:Int):=aB;have hk1:(j:Int)<((n-1:Nat):Int):=aB;clear hcN hldi hnn hYi hYiS hYiO hy;go_upto_region 4 with (first
      | (refine bD rfl 27 _ rfl ⟨b,o+7+j*7,none⟩ (.agg Yi) rfl HLDI.out ?_)
      | (refine wpList_store_row rfl _ _ _ rfl wr.heap.size Yi rfl rfl _ fU (heap_alloc_new wr _) HYI.out (by rw[HYIS.out];rfl) HYO.out ?_))
     dsimp only[Act.put];generalize hw3:World.setRow _ _ _=w3;have B3:aQ w3 wr.heap.size 27 Yi:=MZ;have hb3:aF wr w3:=Mc;have hG3:=HG.out.keep hb3;have hS3:=HS.out.keep hb3;have hJ3:=HT.out _ _ _ HJ.out (hb3.mono hwr);have hgl:=vV HG.out;have hs3:=hb3.size;clear hw3 HG HS HJ HLDI;obtain⟨fn,tmps,assign,body,hy,hRd⟩:=HY.out j _ w3 (yj (SQ:=SQ) (n:=n) (i:=j) aB) hJ3;have HB3:=aA B3;have HG3:=aA hG3;have HS3:=aA hS3;           have hldy:=vP hG3 (HSQ.out (j+1));clear B3 hG3 hS3 hJ3;refine (wpIn_wide (n:=0)).1 ?_
     gi_wp2_with (refine ng rfl 30 _ rfl ⟨g,0,none⟩ _ rfl hldy ?_)
     clear hldy;refine⟨rfl,hRd.mono ?_⟩;clear hRd hy;rintro e W' (⟨rfl,hJ',hk'⟩ | ⟨rfl,hJx'⟩)
     ·have hG4:aQ W' g 30 (SQ (j+1)):=(hk'.same g aB (.inr aB) aB).trans HG3.out;have hB4:aQ W' wr.heap.size 27 Yi:=(hk'.same _ aB (.inr hwr) (by have:=vV HB3.out;exact this)).trans HB3.out;have hS4:=HS3.out.round hk' hw hkb htb;have hsW':=hk'.low.size
      gi_wp2
      have hlds:=vP hG4 (HSQ.out (j+1));have hldc:=iO hB4 HYIS.out;have HLS:=aA hlds;have HLC:=aA hldc;have HG4:=aA hG4;have HS4:=aA hS4;have hJn:=HT.out;clear hlds hldc hG4 hB4 hS4 hk' HB3 HG3 HS3;have HJN:=aA hJn;have HJ':=aA hJ';clear hJn hJ';go_wp2_with (first
       | (refine bD rfl 30 _ rfl ⟨g,0,none⟩ (.agg (SQ (j+1))) rfl HLS.out ?_)
       | (refine bD rfl 27 _ rfl ⟨wr.heap.size,0,none⟩ (.agg Yi) rfl HLC.out ?_)
       | (go_at_call 52;refine (HCN.out _ HS4.out.b).mono ?_;rintro e w5 ⟨rfl,hb5⟩)
       | (refine wpList_store_row rfl _ _ _ rfl g (SQ (j+1+1)) rfl rfl _ (SQ (j+1)) (HG4.out.keep hb5) (HSI.out (j+1+1)) (by rw[HSQ.out,HSQ.out]) (HSQ1.out (j+1+1)) ?_))
      generalize hw6:World.setRow _ _ _=w6;have hg6:aQ w6 g 30 (SQ (j+1+1)):=by rw[<-hw6];exact setRow_heap _ _ _ _ _ _ (HG4.out.keep hb5)
      have hb6:Below W.heap.size w5 w6:=MV;have hs5:=hb5.size;have hs6:=hb6.size;have hS6:=(HS4.out.keep hb5).low hb6 aB aB aB;have hJ6:=HJN.out _ _ _ HJ'.out ((hb5.mono (show W.heap.size<=W'.heap.size by omega)).trans hb6);exact⟨⟨j+1,aB,bg,aB,aA hg6,aA hS6,aA hJ6⟩,dD⟩
     ·gi_wp2
      go_wp2;exact uw
    ·obtain rfl:j=n-1:=aB;go_upto_region 7 with fail
     have hG3:=HG.out;have hJ3:=HJ.out;obtain⟨fn,tmps,assign,body,hy,hRd⟩:=HY.out (n-1) _ wr (yj (SQ:=SQ) (n:=n) (i:=n-1) aB) hJ3;have hldy:=vP hG3 (HSQ.out (n-1+1));have hn1:n-1+1=n:=aB;rw[hn1]at hy hldy;clear hJ3 hG3 HG HJ HS;refine (wpIn_wide (n:=0)).1 ?_
     gi_wp2_with (refine ng rfl 30 _ rfl ⟨g,0,none⟩ _ rfl hldy ?_)
     clear hldy;refine⟨rfl,hRd.mono ?_⟩;clear hRd hy;rintro e W' (⟨rfl,hJ',hk'⟩ | ⟨rfl,hJx'⟩)
     ·rw[hn1]at hJ'
      gi_wp2
      go_end0;exact⟨⟨_,rfl⟩,.inl (by rw[yu];exact hJ')⟩
     ·gi_wp2
      go_end0;exact⟨⟨_,rfl⟩,.inr hJx'⟩
attribute [local go_sem] Oper.semAt_some
theorem Xx(KX TX:Array Value)(w:World):Calls prog 91 #[.agg KX,.agg TX] w fun e w' =>
  e=.returned (.func (.func 159) #[] #[.pointer (some ⟨w.heap.size,0,none⟩),.pointer (some ⟨w.heap.size+1,0,none⟩)])/\w'=(w.alloc (.cells KX 23)).alloc (.cells TX 32):=by
 have hmf:∀(fn:Fn)(first cap:Array Value)(w:World),(Instr.makeFunc fn first cap).run prog w=.ok (.func fn first cap) w:=fun _ _ _ _=>rfl
 go_enter func91,ntmps91;go_wp2;go_ret;exact⟨aH,rfl⟩
theorem dY{w:World}{g:Nat}{X:Array Value}{t:TypeId}(hg:w.heap[g]? = some (.cells X t (0,0)))(hs:X.size=20):(loadVar 32 ⟨g,0,none⟩).run prog w=.ok (.agg X) w :=
 run_loadVar_row (P:=prog) w g _ 32 X _ _ hg underlying32 rfl (by rw[hs];kernel_rfl)
structure RiS(w:World)(ZS X:Array Value)(W:World):Prop where
 r:aQ W (w.heap.size+2) 30 ZS
 o:aQ W (w.heap.size+3) 30 X
 b:aF w W
 s:w.heap.size+3<W.heap.size
theorem RiS.keep{w W W':World}{ZS X:Array Value}{B:Nat}(h:RiS w ZS X W)(hb:Below B W W')(hB:w.heap.size+4<=B):RiS w ZS X W' :=
 ⟨(hb.block _ aB).trans h.r,(hb.block _ aB).trans h.o,h.b.trans (hb.mono aB),Nat.lt_of_lt_of_le h.s hb.size⟩
theorem Md(k:aj)(x:ah)(w:World)(hR:bZ w x)(hc:∀ y∈x.L,kD y.c)(h1:1<=x.t.conds.length)(hn:x.t.conds.length<=1000)(hk:k.secret.size<=1000000)(hid:x.t.id.size<=1000000)(hK:Ks w)(hE:Env w)(hTb:Tab w) :
  Calls prog 44 #[k.val,x.val] w (Ret w (.agg (b8 (eU k x.t)).toArray)):=by
 obtain⟨SQ,hSQ⟩:∃ SQ:Nat->Array Value,∀ i,SQ i=(b8 (ji k x.t i)).toArray:=⟨fun i=>(b8 (ji k x.t i)).toArray,fun _=>rfl⟩;have hsq:∀ i,(SQ i).size=16:=fun i=>MS
 have hsq1:∀ i,(SQ i).all (·.oneCell')=true:=fun i=>by rw[hSQ];exact uo _
 have hIt:=fun (w1:World) (kb tb ob:Nat)=>Xw k x w w1 kb tb ob hR hc h1 hn hk hid hK hE hTb SQ hSQ
 rw[<-Xq,<-hSQ];have hTS:x.cells.toArray.size=20:=sW;rw[aj.val_arr];unfold ah.val;have hKS:k.arr.size=5:=k.arr_size;generalize k.arr=KX at *;generalize x.t.conds.length=n at *;have HIT:=aA hIt;have HSQ:=aA hsq;have HSQ1:=aA hsq1;have HTS:=aA hTS;have HKS:=aA hKS;have HSI:=aA (fun i=>(show (prog.info? 30).map (·.size)=some (SQ i).size by rw[hsq i];exact lh));clear hIt hsq hsq1 hTS hKS hSQ hR hc hK hE hTb;refine (callsIn_wide (n:=0)).1 ?_;refine callsIn_of_wp_marks func44 rfl trivial ?_ rfl;simp only[ntmps44,List.size_toArray,List.length_cons,List.length_nil,Nat.reduceAdd,Nat.reduceSub,Array.replicate_succ,Array.replicate_zero,List.push_toArray,List.append_toArray,List.nil_append,List.cons_append];refine wpIn_wide.2 ?_;go_upto_region 2 with fail
 generalize hw0:World.alloc _ _=w0;obtain⟨ZS,hZS⟩:∃ ZS:Array Value,ZS=(b8 (List.replicate 16 0)).toArray:=⟨_,rfl⟩;have hz4:w0.heap.size=w.heap.size+4:=vX;have hx0:aQ w0 w.heap.size 23 KX:=by rw[<-hw0];exact (heap_alloc_old _ _ aP).trans (iL w _ _ _).1
 have ht0:aQ w0 (w.heap.size+1) 32 x.cells.toArray:=by rw[<-hw0];exact (heap_alloc_old _ _ aH).trans (iL w _ _ _).2.1
 have hi0:RiS w ZS ZS w0:=by
  rw[<-hw0,hZS];refine⟨(heap_alloc_old _ _ aH).trans (iL w _ _ _).2.2,?_,aJ,aH⟩;have:=heap_alloc_new (((w.alloc (.cells KX 23)).alloc (.cells x.cells.toArray 32)).alloc (.cells (b8 (List.replicate 16 0)).toArray 30)) (.cells (b8 (List.replicate 16 0)).toArray 30);have e:(((w.alloc (.cells KX 23)).alloc (.cells x.cells.toArray 32)).alloc (.cells (b8 (List.replicate 16 0)).toArray 30)).heap.size=w.heap.size+3:=aH;rw[e]at this;exact this
 have hZS16:ZS.size=16:=by rw[hZS];rfl
 have HZV:=aA hZS;clear hw0 hZS;have hldk:=iM hx0 ku;have hldt:=dY ht0 HTS.out;have HZ4:=aA hz4;clear hx0 ht0 hz4;go_wp2_with (first
  | (refine bD rfl 23 _ rfl ⟨w.heap.size,0,none⟩ (.agg KX) rfl hldk ?_)
  | (refine bD rfl 32 _ rfl ⟨w.heap.size+1,0,none⟩ (.agg x.cells.toArray) rfl hldt ?_)
  | (go_at_call 91;refine (Xx KX x.cells.toArray w0).mono ?_;rintro e w1 ⟨rfl,hw1⟩;have HW1:=aA hw1;clear hw1))
 have hz4:=HZ4.out;have hw1:=HW1.out;have hb1:aF w0 w1:=by rw[hw1];exact aU (aU (Below.refl _ _) _) _
 have hz1:w1.heap.size=w.heap.size+6:=by rw[hw1];simp;omega
 have hits:ItS w w0.heap.size (w0.heap.size+1) KX x w1:=by
  refine⟨hi0.b.trans (hb1.mono aB),?_,⟨?_⟩⟩
  ·rw[hw1];exact (gQ w0 _ _).1
  ·rw[hw1];exact (gQ w0 _ _).2
 have hseq:=HIT.out w1 w0.heap.size (w0.heap.size+1) (w.heap.size+3) hits aB ⟨aB,aB⟩ ⟨aB,aB⟩;have hi1:RiS w ZS ZS w1:=hi0.keep hb1 aB;clear hldk hldt hi0 hb1 hits hw1;obtain⟨OX,hOX0,hOX⟩:∃ OX:Nat->Array Value,OX 0=ZS/\∀ j,OX (j+1)=SQ (j+1):=⟨fun j=>if j=0 then ZS else SQ j,rfl,fun j=>rfl⟩;have hOS:∀ j,(OX j).size=16:=fun j=>by
  cases j with
  | zero=>rw[hOX0];exact hZS16
  | succ j=>rw[hOX];exact HSQ.out _
 rw[<-hOX0]at hi1;refine (wpIn_wide (n:=0)).1 ?_;refine Xg (a:=?act) (gf:=159) (lb:=#[.pointer (some ⟨w0.heap.size,0,none⟩),.pointer (some ⟨w0.heap.size+1,0,none⟩)]) ?geq (enters_of func159 aG rfl) (ob:=w.heap.size+3) aB hseq (Below.refl _ _) (fun j W=>RiS w (OX 0) (OX j) W) (fun j A B h hb=>h.keep hb aB) hi1 (fun v a' W=>∃ g X,v=.agg X/\a'=Act.put (Act.put ?act (some 10) v) (some 6) (.pointer (some ⟨g,0,none⟩))/\w.heap.size+4<=g/\aQ W g 30 X) ?ax ?assign ?body ?done
 case geq=>rfl
 case ax =>
  rintro v a' W l o o' ⟨g,X,e1,e2,hg,hx⟩ ho hc;refine⟨g,X,e1,e2,hg,(World.putObj_heap_other ?_).trans hx⟩;exact Me
 case assign =>
  intro l j v W K hv hi hs hK;clear hz4;have hjl:j<n:=by have:=(List.getElem?_eq_some_iff.1 hv).1;rwa [yu]at this
  rw[yj hjl]at hv;injection hv with hv
  subst hv
  gi_wp2_with (refine yw rfl 30 _ _ rfl W.heap.size (SQ (j+1)) rfl rfl _ (b8 (List.replicate 16 0)).toArray (heap_alloc_new W _) (HSI.out _) (by rw[HSQ.out];rfl) (HSQ1.out _) ?_)
  have hb2:aF W ((W.alloc (.cells (b8 (List.replicate 16 0)).toArray 30)).setRow W.heap.size (SQ (j+1))):=below_setRow (fJ _ _) (Nat.le_refl _) _;refine hK _ _ (lW.of_below hb2 aB) (hi.keep hb2 aB) ⟨W.heap.size,SQ (j+1),rfl,rfl,aB,setRow_heap _ _ _ _ _ _ (heap_alloc_new W _)⟩
 case body =>
  rintro l j v a' W hv hi ⟨g,X,rfl,rfl,hg,hx⟩;clear hz4;have hjl:j<n:=by have:=(List.getElem?_eq_some_iff.1 hv).1;rwa [yu]at this
  rw[yj hjl]at hv;injection hv with hv
  injection hv with hv
  subst hv;have hld:=vP hx (HSQ.out _);have HLD:=aA hld;clear hld;dsimp only[Act.put]
  gi_wp2_with (first
   | (refine ng rfl 30 _ rfl ⟨g,0,none⟩ (.agg (SQ (j+1))) rfl HLD.out ?_)
   | (refine yw rfl 30 _ _ rfl (w.heap.size+3) (SQ (j+1)) rfl rfl _ (OX j) hi.o (HSI.out _) (by rw[HSQ.out,hOS]) (HSQ1.out _) ?_))
  have hb3:Below (w.heap.size+3) W (W.setRow (w.heap.size+3) (SQ (j+1))):=below_setRow (Below.refl _ _) (Nat.le_refl _) _;refine⟨⟨hb3,fun k h1 _=>setRow_other _ _ _ _ aB⟩,⟨(hb3.block _ aB).trans hi.r,?_,hi.b.trans (hb3.mono aB),Nat.lt_of_lt_of_le hi.s hb3.size⟩⟩;rw[hOX];exact setRow_heap _ _ _ _ _ _ hi.o
 case done =>
  intro D W hD hi hK;rw[yu]at hi;obtain⟨m,rfl⟩:∃ m,n=m+1:=⟨n-1,aB⟩;rw[hOX,hOX0]at hi;have hld:=vP hi.o (HSQ.out _);have HLD:=aA hld;clear hld;go_wp2_with (first
   | (refine bD rfl 30 _ rfl ⟨w.heap.size+3,0,none⟩ (.agg (SQ (m+1))) rfl HLD.out ?_)
   | (refine wpList_store_row rfl 30 _ _ rfl (w.heap.size+2) (SQ (m+1)) rfl rfl _ ZS hi.r (HSI.out _) (by rw[HSQ.out,hZS16]) (HSQ1.out _) ?_))
  have hb3:Below w.heap.size W (W.setRow (w.heap.size+2) (SQ (m+1))):=below_setRow (Below.refl _ _) aB _;have hk3:(W.setRow (w.heap.size+2) (SQ (m+1))).heap[D]? = some (.deferred (some [])):=(setRow_other _ _ _ _ aB).trans hK;have hr3:aQ (W.setRow (w.heap.size+2) (SQ (m+1))) (w.heap.size+2) 30 (SQ (m+1)):=setRow_heap _ _ _ _ _ _ hi.r;have hbw:=hi.b.trans hb3;generalize W.setRow (w.heap.size+2) (SQ (m+1))=W3 at *;refine⟨aH,.inl ⟨_,_,rfl,run_takeDeferred hk3,?_⟩⟩;refine⟨.agg (SQ (m+1)),?_,?_⟩
  ·exact results_cell_row rfl _ _ (w.heap.size+2) _ _ (0,0) _ rfl ((World.putObj_heap_other aB).trans hr3) underlying30 rfl (HSI.out _)
  ·exact⟨rfl,hbw.grown (grownBy_putObj' W3 D _) yx (fun r e=>mZ)⟩
attribute [local go_sem] Oper.semAt_some
def D3(nb g:Nat)(Ls:List aC)(j:Nat)(v:Value)(w:World):Prop :=
 match j with
 | 0=>v=.func (.func 138) #[.pointer (some ⟨g,0,none⟩)] #[]
 | 1=>v=.pointer (some ⟨g,0,none⟩)
 | 2=>v=.string (Ls.getD 0 aT)
 | 3=>v=.int .i64 (af (Ls.getD 0 aT))
 | 4=>v=.func (.func 138) #[.pointer (some ⟨g,0,none⟩)] #[]
 | 5=>v=.pointer (some ⟨g,0,none⟩)
 | 6=>v=.string (Ls.getD 1 aT)
 | 7=>v=.int .i64 (af (Ls.getD 1 aT))
 | 8=>v=.pointer (some ⟨g,0,none⟩)
 | 9=>v=.string (Ls.getD 2 aT)
 | 10=>v=.agg #[.int .i64 (af (Ls.getD 0 aT)),.int .i64 (af (Ls.getD 1 aT)),.string (Ls.getD 2 aT),.slice none 0 0,.slice none 0 0,.slice none 0 0,.int .i64 0]
 | 11=>∃ cb,v=.pointer (some ⟨cb,0,none⟩)/\nb<cb/\aX w cb 0 0 ⟨#[]⟩ none 0 0 none 0 0 none 0 0 0
 | _=>True
def D9(nb g cb:Nat)(A6:Option Addr)(k c6:Nat)(p:aC)(j:Nat)(v:Value)(w:World):Prop :=
 match j with
 | 0=>v=.pointer (some ⟨cb,5,none⟩)
 | 1=>v=.slice A6 k c6
 | 2=>v=.func (.func 138) #[.pointer (some ⟨g,0,none⟩)] #[]
 | 3=>v=.string p
 | 4=>v=.int .i64 (af p)
 | 5=>∃ bb,v=.slice (some ⟨bb,0,none⟩) 1 1/\g<bb/\w.cell? ⟨bb,0,none⟩=some (.int .i64 (af p))
 | _=>True
theorem D9.keep{nb g cb:Nat}{A6:Option Addr}{k c6:Nat}{p:aC}(j:Nat)(v:Value)(w w':World)(h:D9 nb g cb A6 k c6 p j v w)(hb:But g w w'):D9 nb g cb A6 k c6 p j v w':=by
 unfold D9 at h;split at h;all_goals first
  | exact h
  | (obtain⟨bb,e,hc,hx⟩:=h;exact⟨bb,e,hc,hb.cell hx aP⟩)
  | (unfold D9;split <;> first | trivial | (exfalso;simp_all;done))
def D10(nb g:Nat)(Ls:List aC)(j:Nat)(v:Value)(w:World):Prop :=
 match j with
 | 0=>v=.func (.func 138) #[.pointer (some ⟨g,0,none⟩)] #[]
 | 1=>v=.pointer (some ⟨g,0,none⟩)
 | 2=>v=.string (Ls.getD 6 aT)
 | 3=>v=.int .i64 (af (Ls.getD 6 aT))
 | _=>True
theorem D10.keep{nb g:Nat}{Ls:List aC}(j:Nat)(v:Value)(w w':World)(h:D10 nb g Ls j v w)(hb:But g w w'):D10 nb g Ls j v w':=by
 unfold D10 at h;split at h;all_goals first
  | exact h
  | (unfold D10;split <;> first | trivial | (exfalso;simp_all;done))
def J10(w0:World)(nb g:Nat)(Ls:List aC)(b9:Bool)(l:Nat->Bool)(w:World):Prop:=PS w0 w nb g Ls (bif l 2 then 7 else 6) (b9||(l 2&&decide (Ls.length<=6))||(l 3&&dH (Ls.getD 6 aT)))
def PI(w0:World)(nb g cb hi:Nat)(Ls X3 X4 X5:List aC)(b8:Bool)(N0 N1:Int)(PT:aC)(A3 A4:Option Addr)(c3 c4 k:Nat)(W:World):Prop :=
 ∃ A5 c5,aX W cb N0 N1 PT A3 X3.length c3 A4 X4.length c4 A5 k c5 0/\W.ownsRow hi 3 1 (.slice A5 k c5) k ((X5.take k).map fun x=>.int .i64 (af x))/\aI W 1 A3 X3.length (X3.map .string)/\aI W 1 A4 X4.length (X4.map .string)/\PS w0 W nb g Ls 6 (b8||(X5.take k).any dH)/\hi<=W.heap.size
theorem PI.own{w0:World}{nb g cb hi B:Nat}{Ls X3 X4 X5:List aC}{b8:Bool}{N0 N1:Int}{PT:aC}{A3 A4:Option Addr}{c3 c4:Nat}(hB:w0.heap.size<=B):OwnFrom B (PI w0 nb g cb hi Ls X3 X4 X5 b8 N0 N1 PT A3 A4 c3 c4):=by
 rintro k W W' row ⟨A5,c5,h1,h2,h3,h4,h5,h6⟩ hg hr;have hc:pY W W' row:=⟨hg,fun r e=>(hr r e).2⟩;exact⟨A5,c5,Blk.calm h1 hc,WZ h2 hc,h3.calm hc,h4.calm hc,h5.calm hc (fun r e=>vY),Nat.le_trans h6 hg.size⟩
theorem D3.keep{nb g:Nat}{Ls:List aC}(hg:g<nb)(j:Nat)(v:Value)(w w':World)(h:D3 nb g Ls j v w)(hb:But g w w'):D3 nb g Ls j v w':=by
 unfold D3 at h;split at h;all_goals first
  | exact h
  | (obtain⟨cb,e,hc,hx⟩:=h;exact⟨cb,e,hc,hb.blk hx aB⟩)
  | (unfold D3;split <;> first | trivial | (exfalso;simp_all;done))
def b3(Ls:List aC)(l:Nat->Bool):Bool:=(l 2&&decide (Ls.length<=0))||(l 3&&dH (Ls.getD 0 aT))||(l 6&&decide (Ls.length<=1))||(l 7&&dH (Ls.getD 1 aT))||(l 9&&decide (Ls.length<=2))
def J3(w0:World)(nb g:Nat)(Ls:List aC)(l:Nat->Bool)(w:World):Prop:=PS w0 w nb g Ls (bif l 9 then 3 else bif l 6 then 2 else bif l 2 then 1 else 0) (b3 Ls l)
def Beh(g:Nat)(A:Option Addr)(n:Nat):Prop:=0<n->∀ a,A=some a->g<a.block
theorem Beh.off{g:Nat}{A:Option Addr}{n:Nat}(h:Beh g A n):0<n->∀ a,A=some a->a.block≠g:=fun h0 a ha=>by have:=h h0 a ha;omega
theorem Xy(n:Nat)(a0 a1 a5 a6:Bool):(!decide (n=7)||a0||a1||a5||a6)=false↔((((false||decide (n<=0)||a0||decide (n<=1)||a1||decide (n<=2))||decide (n<=3)||decide (n<=4)||decide (n<=5))||a5)||decide (n<=6)||a6)=false/\n<=7:=by
 cases a0 <;> cases a1 <;> cases a5 <;> cases a6 <;> simp <;> omega
end Go.Proofs.YtlkbkclnbppigaaGreatDoor
