/- Layer 25's example: the law's sanity returns true. -/
import Derived.Test.YtlkbkclnbppigaaGreatDoorIZ40
set_option maxHeartbeats 32000000
namespace Go.Proofs.YtlkbkclnbppigaaGreatDoor
open Tryz
open Go.RowKit Go.Sort
set_option linter.unusedVariables false
set_option linter.unusedSimpArgs false
set_option maxRecDepth 100000
theorem zQ(y:ah):y.val=.agg y.cells.toArray:=rfl
theorem kH{W:World}{y:ah}(h:bZ W y):((prog.info? 32).map (·.size)=some y.cells.toArray.size)/\(bf).size=y.cells.toArray.size/\y.cells.toArray.all (·.oneCell')=true:=by
 have e:y.cells.toArray.size=20:=by rw[List.size_toArray];exact h.size
 exact⟨by rw[e];exact lC,by rw[e];rfl,mi _ _ _ _ _ _ _⟩
theorem wO:(prog.info? 59).map (·.size)=some 6:=by kernel_rfl
theorem EW(W:World)(a b:Nat)(hab:a≠b)(ha:a=W.heap.size\/a=W.heap.size+1)(hb:b=W.heap.size\/b=W.heap.size+1){Z X:Array Value}{t:TypeId} :
  aQ ((((W.alloc (.cells Z t)).alloc (.cells Z t)).setRow a X).setRow b X) a t X/\aQ ((((W.alloc (.cells Z t)).alloc (.cells Z t)).setRow a X).setRow b X) b t X/\aF W ((((W.alloc (.cells Z t)).alloc (.cells Z t)).setRow a X).setRow b X)/\aQ (((W.alloc (.cells Z t)).alloc (.cells Z t)).setRow a X) b t Z/\aQ ((W.alloc (.cells Z t)).alloc (.cells Z t)) a t Z:=by
 have h2:=gQ W (.cells Z t) (.cells Z t);have hA:aQ ((W.alloc (.cells Z t)).alloc (.cells Z t)) a t Z:=by rcases ha with rfl | rfl;exact h2.1;exact h2.2
 have hB:aQ ((W.alloc (.cells Z t)).alloc (.cells Z t)) b t Z:=by rcases hb with rfl | rfl;exact h2.1;exact h2.2
 have hB1:aQ (((W.alloc (.cells Z t)).alloc (.cells Z t)).setRow a X) b t Z:=(setRow_other _ _ _ _ (Ne.symm hab)).trans hB;have hA1:aQ (((W.alloc (.cells Z t)).alloc (.cells Z t)).setRow a X) a t X:=setRow_heap _ _ _ _ _ _ hA;exact⟨(setRow_other _ _ _ _ hab).trans hA1,setRow_heap _ _ _ _ _ _ hB1,below_setRow (below_setRow (aU (aU (Below.refl _ _) _) _) aB _) aB _,hB1,hA⟩
theorem EX:lD lZ:=zS _ aK aK aK
theorem EY:lD mr:=zS _ aK aK aK
theorem QE:lD uH:=zS _ aK aK aK
structure wP(w:World)(gt gn gr ge g10 g11 gc gm:Nat)(y1 y2 y5:ah)(mm:ae)(W:World):Prop where
 t:aQ W gt 32 y1.cells.toArray
 n:aQ W gn 32 y2.cells.toArray
 g:aQ W gr 23 (#[.int .i64 9,.int .i64 1,.string (⟨#[107]⟩:aC),.int .i64 0,.int .i64 1000]:Array Value)
 e:aQ W ge 59 (#[.string (⟨#[97,99,109,101,47,120]⟩:aC),.string (⟨#[98,111,98]⟩:aC),.string (⟨#[100,101]⟩:aC),.int .i64 0,.int .i64 5,.int .i64 5]:Array Value)
 l:aQ W g10 59 (#[.string (⟨#[97,99,109,101,47,120]⟩:aC),.string (⟨#[98,111,98]⟩:aC),.string (⟨#[100,101]⟩:aC),.int .i64 0,.int .i64 20,.int .i64 21]:Array Value)
 o:aQ W g11 59 (#[.string (⟨#[98,111,108,116,47,120]⟩:aC),.string (⟨#[98,111,98]⟩:aC),.string (⟨#[100,101]⟩:aC),.int .i64 0,.int .i64 5,.int .i64 5]:Array Value)
 c:aQ W gc 32 y5.cells.toArray
 m:aQ W gm 27 (dS mS mm)
 r1:bZ W y1
 r2:bZ W y2
 r5:bZ W y5
 rm:dA W mS mm
 b:aF w W
theorem wP.keep{w W W':World}{gt gn gr ge g10 g11 gc gm:Nat}{y1 y2 y5:ah}{mm:ae}(h:wP w gt gn gr ge g10 g11 gc gm y1 y2 y5 mm W)(hb:aF W W'):wP w gt gn gr ge g10 g11 gc gm y1 y2 y5 mm W' :=
 ⟨h.t.keep hb,h.n.keep hb,h.g.keep hb,h.e.keep hb,h.l.keep hb,h.o.keep hb,h.c.keep hb,h.m.keep hb,h.r1.keep hb,h.r2.keep hb,h.r5.keep hb,h.rm.keep hb,aV h.b hb⟩
theorem aBe(w:World)(hL:gz w):Calls prog 11 #[] w (Ret w (.bool true)):=by
 have HL:=aA (fun (W:World) (hb:aF w W)=>hL.keep hb);clear hL;go_enter func11,ntmps11;go_upto_region 3 with fail
 generalize hw0:World.alloc _ _=w0;have hK:aQ w0 w.heap.size 23 (#[.int .i64 9,.int .i64 1,.string (⟨#[107]⟩:aC),.int .i64 0,.int .i64 1000]:Array Value):=by rw[<-hw0];exact (iL w _ _ _).1
 have hA:aQ w0 (w.heap.size+1) 27 (#[.int .i64 0,.int .i64 100,.string (⟨#[97,99,109,101,47,42,42]⟩:aC),.slice none 0 0,.slice none 0 0,.slice none 0 0,.int .i64 0]:Array Value):=by rw[<-hw0];exact (iL w _ _ _).2.1
 have hB:aQ w0 (w.heap.size+1+1) 27 (#[.int .i64 10,.int .i64 50,.string ⟨#[]⟩,.slice none 0 0,.slice none 0 0,.slice none 0 0,.int .i64 0]:Array Value):=by rw[<-hw0];exact (iL w _ _ _).2.2
 have hW:aF w w0:=oH;clear hw0;go_upto_region 4 with (first
  | (refine bD rfl 23 _ rfl ⟨w.heap.size,0,none⟩ (.agg (#[.int .i64 9,.int .i64 1,.string (⟨#[107]⟩:aC),.int .i64 0,.int .i64 1000]:Array Value)) rfl (iM hK kJ) ?_)
  | (refine bD rfl 27 _ rfl ⟨w.heap.size+1,0,none⟩ (.agg (#[.int .i64 0,.int .i64 100,.string (⟨#[97,99,109,101,47,42,42]⟩:aC),.slice none 0 0,.slice none 0 0,.slice none 0 0,.int .i64 0]:Array Value)) rfl (iO hA rfl) ?_)
  | (go_at_call 12;refine (QF (HL.out _ hW)).mono ?_;rintro e w1 ⟨hbx,y1,rfl,hr1,ht1⟩;simp only[zQ];(replace hK:=hK.keep hbx;replace hA:=hA.keep hbx;replace hB:=hB.keep hbx;replace hW:=aV hW hbx);clear hbx)
  | (refine wpList_store_row rfl 32 _ _ rfl w1.heap.size y1.cells.toArray rfl rfl _ bf (heap_alloc_new w1 _) (kH hr1).1 (kH hr1).2.1 (kH hr1).2.2 ?_))
 (try dsimp only[Act.put]);generalize hwx:World.setRow _ _ _=w2;have hT:aQ w2 w1.heap.size 32 y1.cells.toArray:=by rw[<-hwx];exact setRow_heap _ _ _ _ _ _ (heap_alloc_new w1 _)
 have hbx:aF w1 w2:=uI;(replace hK:=hK.keep hbx;replace hA:=hA.keep hbx;replace hB:=hB.keep hbx;replace hW:=aV hW hbx);replace hr1:=hr1.keep hbx;have HY1:=aA (show y1.cells.toArray.size=20 by rw[List.size_toArray];exact hr1.size);generalize hgt:w1.heap.size=gt at *;clear hwx hbx hgt;go_upto_region 5 with (first
  | (refine bD rfl 32 _ rfl ⟨gt,0,none⟩ (.agg y1.cells.toArray) rfl (dY hT HY1.out) ?_)
  | (refine bD rfl 27 _ rfl ⟨w.heap.size+1+1,0,none⟩ (.agg (#[.int .i64 10,.int .i64 50,.string ⟨#[]⟩,.slice none 0 0,.slice none 0 0,.slice none 0 0,.int .i64 0]:Array Value)) rfl (iO hB rfl) ?_)
  | (go_at_call 17;refine (QH (HL.out _ hW) hr1 ht1).mono ?_;rintro e w3 ⟨hbx,y2,rfl,hr2,ht2⟩;simp only[zQ];(replace hK:=hK.keep hbx;replace hA:=hA.keep hbx;replace hB:=hB.keep hbx;replace hT:=hT.keep hbx;replace hr1:=hr1.keep hbx;replace hW:=aV hW hbx);clear hbx)
  | (refine wpList_store_row rfl 32 _ _ rfl w3.heap.size y2.cells.toArray rfl rfl _ bf (heap_alloc_new w3 _) (kH hr2).1 (kH hr2).2.1 (kH hr2).2.2 ?_))
 (try dsimp only[Act.put]);generalize hwx:World.setRow _ _ _=w4;have hN:aQ w4 w3.heap.size 32 y2.cells.toArray:=by rw[<-hwx];exact setRow_heap _ _ _ _ _ _ (heap_alloc_new w3 _)
 have hbx:aF w3 w4:=uI;(replace hK:=hK.keep hbx;replace hA:=hA.keep hbx;replace hB:=hB.keep hbx;replace hT:=hT.keep hbx;replace hr1:=hr1.keep hbx;replace hW:=aV hW hbx);replace hr2:=hr2.keep hbx;have HY2:=aA (show y2.cells.toArray.size=20 by rw[List.size_toArray];exact hr2.size);generalize hgn:w3.heap.size=gn at *;clear hwx hbx hgn;go_upto_region 6 with (refine bD rfl 23 _ rfl ⟨w.heap.size,0,none⟩ (.agg (#[.int .i64 9,.int .i64 1,.string (⟨#[107]⟩:aC),.int .i64 0,.int .i64 1000]:Array Value)) rfl (iM hK kJ) ?_)
 generalize hwx:World.alloc _ _=w5;have hG:aQ w5 w4.heap.size 23 (#[.int .i64 9,.int .i64 1,.string (⟨#[107]⟩:aC),.int .i64 0,.int .i64 1000]:Array Value):=by rw[<-hwx];exact heap_alloc_new w4 _
 have hbx:aF w4 w5:=by rw[<-hwx];exact fJ _ _
 (replace hK:=hK.keep hbx;replace hA:=hA.keep hbx;replace hB:=hB.keep hbx;replace hT:=hT.keep hbx;replace hr1:=hr1.keep hbx;replace hN:=hN.keep hbx;replace hr2:=hr2.keep hbx;replace hW:=aV hW hbx);generalize hgr:w4.heap.size=gr at *;clear hwx hbx hgr;go_upto_region 7 with fail
 generalize hwx:World.alloc _ _=w6;have hEa:aQ w6 w5.heap.size 59 (#[.string (⟨#[97,99,109,101,47,120]⟩:aC),.string (⟨#[98,111,98]⟩:aC),.string (⟨#[100,101]⟩:aC),.int .i64 0,.int .i64 5,.int .i64 5]:Array Value):=by rw[<-hwx];exact heap_alloc_new w5 _
 have hbx:aF w5 w6:=by rw[<-hwx];exact fJ _ _
 (replace hK:=hK.keep hbx;replace hA:=hA.keep hbx;replace hB:=hB.keep hbx;replace hT:=hT.keep hbx;replace hr1:=hr1.keep hbx;replace hN:=hN.keep hbx;replace hr2:=hr2.keep hbx;replace hG:=hG.keep hbx;replace hW:=aV hW hbx);generalize hge:w5.heap.size=ge at *;clear hwx hbx hge;have HE6:=aA hEa;go_cut [10,11] (fun v10 v11 wx=>∃ g10 g11:Nat,v10=.pointer (some ⟨g10,0,none⟩)/\v11=.pointer (some ⟨g11,0,none⟩)/\g10≠g11/\w6.heap.size<=g10/\w6.heap.size<=g11/\aQ wx g10 59 (#[.string (⟨#[97,99,109,101,47,120]⟩:aC),.string (⟨#[98,111,98]⟩:aC),.string (⟨#[100,101]⟩:aC),.int .i64 0,.int .i64 5,.int .i64 5]:Array Value)/\aQ wx g11 59 (#[.string (⟨#[97,99,109,101,47,120]⟩:aC),.string (⟨#[98,111,98]⟩:aC),.string (⟨#[100,101]⟩:aC),.int .i64 0,.int .i64 5,.int .i64 5]:Array Value)/\aF w6 wx)
 case first =>
  refine wp_region_noPanic ?_;refine wp_region_held_drew (S:=fun W=>aQ W ge 59 (#[.string (⟨#[97,99,109,101,47,120]⟩:aC),.string (⟨#[98,111,98]⟩:aC),.string (⟨#[100,101]⟩:aC),.int .i64 0,.int .i64 5,.int .i64 5]:Array Value)/\aF w6 W) aG ⟨HE6.out.keep (Below.drew (Below.refl _ _)),Below.drew (Below.refl _ _)⟩ (fun hS=>?_);refine wpAnyH_take (i:=0) (v:=.agg (#[.string (⟨#[97,99,109,101,47,120]⟩:aC),.string (⟨#[98,111,98]⟩:aC),.string (⟨#[100,101]⟩:aC),.int .i64 0,.int .i64 5,.int .i64 5]:Array Value)) rfl aG aG aG (fun _ _ _ h=>h) (Or.inl ⟨bC,?tk0⟩) hS ?_
  case tk0=>(intro W hSW;have c0:=hSW.1.cell (k:=0) rfl;have c1:=hSW.1.cell (k:=1) rfl;have c2:=hSW.1.cell (k:=2) rfl;have c3:=hSW.1.cell (k:=3) rfl;have c4:=hSW.1.cell (k:=4) rfl;have c5:=hSW.1.cell (k:=5) rfl;go_simp;try with_reducible rfl)
  (try simp only[Act.put,ag]);refine wpAnyH_take (i:=1) (v:=.agg (#[.string (⟨#[97,99,109,101,47,120]⟩:aC),.string (⟨#[98,111,98]⟩:aC),.string (⟨#[100,101]⟩:aC),.int .i64 0,.int .i64 5,.int .i64 5]:Array Value)) rfl aG aG aG (fun _ _ _ h=>h) (Or.inl ⟨bC,?tk1⟩) hS ?_
  case tk1=>(intro W hSW;have c0:=hSW.1.cell (k:=0) rfl;have c1:=hSW.1.cell (k:=1) rfl;have c2:=hSW.1.cell (k:=2) rfl;have c3:=hSW.1.cell (k:=3) rfl;have c4:=hSW.1.cell (k:=4) rfl;have c5:=hSW.1.cell (k:=5) rfl;go_simp;try with_reducible rfl)
  (try simp only[Act.put,ag]);have hw6d:w6.drew.heap.size=w6.heap.size:=rfl;have hge6:ge<w6.heap.size:=(Array.getElem?_eq_some_iff.1 HE6.out).1;refine wpAnyH_ready (rs:=[2,3]) aG aH ?_;refine AllReadyH.cons (o:=_) rfl (fun K hK=>?_) (AllReadyH.cons (o:=_) rfl (fun K hK=>?_) AllReadyH.nil)
  ·have h2:=EW w6.drew (w6.heap.size) (w6.heap.size+1) aB (.inl rfl) (.inr rfl) (Z:=(#[.string ⟨#[]⟩,.string ⟨#[]⟩,.string ⟨#[]⟩,.int .i64 0,.int .i64 0,.int .i64 0]:Array Value)) (X:=(#[.string (⟨#[97,99,109,101,47,120]⟩:aC),.string (⟨#[98,111,98]⟩:aC),.string (⟨#[100,101]⟩:aC),.int .i64 0,.int .i64 5,.int .i64 5]:Array Value)) (t:=59);have H2:=aA h2;clear h2;go_simp;refine hK.out _ _ ⟨hS.1.keep (fJ _ _),aU hS.2 _⟩ (fun hS2=>?_);clear hK K;(try simp only[Act.put,ag]);refine wpAnyH_ready (rs:=[3]) aG aH ?_;refine AllReadyH.cons (o:=_) rfl (fun K hK=>?_) AllReadyH.nil;go_simp;refine hK.out _ _ ⟨hS2.1.keep (fJ _ _),aU hS2.2 _⟩ (fun hS3=>?_);clear hK K;(try simp only[Act.put,ag]);refine wpAnyH_ready (rs:=[4]) aG aH ?_;refine AllReadyH.cons (o:=_) rfl (fun K hK=>?_) AllReadyH.nil;rw[if_pos bC];refine wp_store_row 59 _ _ bC (w6.heap.size) (#[.string (⟨#[97,99,109,101,47,120]⟩:aC),.string (⟨#[98,111,98]⟩:aC),.string (⟨#[100,101]⟩:aC),.int .i64 0,.int .i64 5,.int .i64 5]:Array Value) bC bC _ (#[.string ⟨#[]⟩,.string ⟨#[]⟩,.string ⟨#[]⟩,.int .i64 0,.int .i64 0,.int .i64 0]:Array Value) H2.out.2.2.2.2 wO rfl qB ?_;refine hK.out _ _ ⟨(setRow_other _ _ _ _ aB).trans hS3.1,below_setRow hS3.2 aB _⟩ (fun hS4=>?_);clear hK K;(try simp only[Act.put,ag]);refine wpAnyH_ready (rs:=[5]) aG aH ?_;refine AllReadyH.cons (o:=_) rfl (fun K hK=>?_) AllReadyH.nil;rw[if_pos bC];refine wp_store_row 59 _ _ bC (w6.heap.size+1) (#[.string (⟨#[97,99,109,101,47,120]⟩:aC),.string (⟨#[98,111,98]⟩:aC),.string (⟨#[100,101]⟩:aC),.int .i64 0,.int .i64 5,.int .i64 5]:Array Value) bC bC _ (#[.string ⟨#[]⟩,.string ⟨#[]⟩,.string ⟨#[]⟩,.int .i64 0,.int .i64 0,.int .i64 0]:Array Value) H2.out.2.2.2.1 wO rfl qB ?_;exact EZ
  ·have h2:=EW w6.drew (w6.heap.size+1) (w6.heap.size) aB (.inr rfl) (.inl rfl) (Z:=(#[.string ⟨#[]⟩,.string ⟨#[]⟩,.string ⟨#[]⟩,.int .i64 0,.int .i64 0,.int .i64 0]:Array Value)) (X:=(#[.string (⟨#[97,99,109,101,47,120]⟩:aC),.string (⟨#[98,111,98]⟩:aC),.string (⟨#[100,101]⟩:aC),.int .i64 0,.int .i64 5,.int .i64 5]:Array Value)) (t:=59);have H2:=aA h2;clear h2;go_simp;refine hK.out _ _ ⟨hS.1.keep (fJ _ _),aU hS.2 _⟩ (fun hS2=>?_);clear hK K;(try simp only[Act.put,ag]);refine wpAnyH_ready (rs:=[2]) aG aH ?_;refine AllReadyH.cons (o:=_) rfl (fun K hK=>?_) AllReadyH.nil;go_simp;refine hK.out _ _ ⟨hS2.1.keep (fJ _ _),aU hS2.2 _⟩ (fun hS3=>?_);clear hK K;(try simp only[Act.put,ag]);refine wpAnyH_ready (rs:=[4]) aG aH ?_;refine AllReadyH.cons (o:=_) rfl (fun K hK=>?_) AllReadyH.nil;rw[if_pos bC];refine wp_store_row 59 _ _ bC (w6.heap.size+1) (#[.string (⟨#[97,99,109,101,47,120]⟩:aC),.string (⟨#[98,111,98]⟩:aC),.string (⟨#[100,101]⟩:aC),.int .i64 0,.int .i64 5,.int .i64 5]:Array Value) bC bC _ (#[.string ⟨#[]⟩,.string ⟨#[]⟩,.string ⟨#[]⟩,.int .i64 0,.int .i64 0,.int .i64 0]:Array Value) H2.out.2.2.2.2 wO rfl qB ?_;refine hK.out _ _ ⟨(setRow_other _ _ _ _ aB).trans hS3.1,below_setRow hS3.2 aB _⟩ (fun hS4=>?_);clear hK K;(try simp only[Act.put,ag]);refine wpAnyH_ready (rs:=[5]) aG aH ?_;refine AllReadyH.cons (o:=_) rfl (fun K hK=>?_) AllReadyH.nil;rw[if_pos bC];refine wp_store_row 59 _ _ bC (w6.heap.size) (#[.string (⟨#[97,99,109,101,47,120]⟩:aC),.string (⟨#[98,111,98]⟩:aC),.string (⟨#[100,101]⟩:aC),.int .i64 0,.int .i64 5,.int .i64 5]:Array Value) bC bC _ (#[.string ⟨#[]⟩,.string ⟨#[]⟩,.string ⟨#[]⟩,.int .i64 0,.int .i64 0,.int .i64 0]:Array Value) H2.out.2.2.2.1 wO rfl qB ?_;exact EZ
 case rest =>
  obtain⟨g10,g11,rfl,rfl,hgg,hl10,hl11,hL10,hL11,hbx⟩:=hcut;have c4:=hL10.cell (k:=4) rfl;have c5:=hL10.cell (k:=5) rfl;have f4:=frozen_of_row _ _ 4 _ _ hL10;have f5:=frozen_of_row _ _ 5 _ _ hL10;have c0:=hL11.cell (k:=0) rfl;have f0:=frozen_of_row _ _ 0 _ _ hL11;have HL10:=aA hL10;have HL11:=aA hL11;have HBX:=aA hbx;clear hL10 hL11 hbx;go_upto_region 9 with fail
  clear c4 c5 f4 f5 c0 f0;generalize hwx:World.setCell _ _ _=wd;have hE10:aQ wd g10 59 (#[.string (⟨#[97,99,109,101,47,120]⟩:aC),.string (⟨#[98,111,98]⟩:aC),.string (⟨#[100,101]⟩:aC),.int .i64 0,.int .i64 20,.int .i64 21]:Array Value):=by
   rw[<-hwx];exact (heap_setCell_other _ _ _ _ hgg).trans (heap_setCell_same _ _ _ _ _ _ (heap_setCell_same _ _ _ _ _ _ HL10.out))
  have hE11:aQ wd g11 59 (#[.string (⟨#[98,111,108,116,47,120]⟩:aC),.string (⟨#[98,111,98]⟩:aC),.string (⟨#[100,101]⟩:aC),.int .i64 0,.int .i64 5,.int .i64 5]:Array Value):=by
   rw[<-hwx];exact heap_setCell_same _ _ _ _ _ _ ((heap_setCell_other _ _ _ _ (Ne.symm hgg)).trans ((heap_setCell_other _ _ _ _ (Ne.symm hgg)).trans HL11.out))
  have hbx:aF w6 wd:=by
   rw[<-hwx];exact ((HBX.out.setCell (p:=⟨g10,4,none⟩) hl10 _).setCell (p:=⟨g10,5,none⟩) hl10 _).setCell (p:=⟨g11,0,none⟩) hl11 _
  replace hEa:=hEa.keep hbx;(replace hK:=hK.keep hbx;replace hA:=hA.keep hbx;replace hB:=hB.keep hbx;replace hT:=hT.keep hbx;replace hr1:=hr1.keep hbx;replace hN:=hN.keep hbx;replace hr2:=hr2.keep hbx;replace hG:=hG.keep hbx;replace hW:=aV hW hbx);clear hwx hbx HL10 HL11 HBX HE6 hgg hl10 hl11 wc;go_upto_region 10 with (first
   | (refine bD rfl 32 _ rfl ⟨gt,0,none⟩ (.agg y1.cells.toArray) rfl (dY hT HY1.out) ?_)
   | (refine wpList_store_row rfl 32 _ _ rfl wd.heap.size y1.cells.toArray rfl rfl _ bf (heap_alloc_new wd _) (kH hr1).1 (kH hr1).2.1 (kH hr1).2.2 ?_))
  (try dsimp only[Act.put]);generalize hwx:World.setRow _ _ _=we;have hC0:aQ we wd.heap.size 32 y1.cells.toArray:=by rw[<-hwx];exact setRow_heap _ _ _ _ _ _ (heap_alloc_new wd _)
  have hbe:aF wd we:=uI;clear hwx;obtain⟨y5,hy5⟩:∃ y5:ah,y5=⟨oI,y1.A,y1.c,y1.L⟩:=⟨_,rfl⟩;have hr5:bZ wd y5:=by
   have h1:=hr1.same;have h2:=hr1.conds;have h3:=hr1.cap;rw[ht1]at h1 h2 h3;rw[hy5];exact⟨h1,h2,uJ,h3⟩
  have ht5:y5.t=oI:=by rw[hy5]
  have hsp:splice y1.cells 4 (b8 sl2)=y5.cells:=by
   rw[hy5];unfold ah.cells;rw[ht1];exact zT _ _ _ _ _ _ _ _ QI.len uJ.len
  have hsl:=uK hr2 (W:=we) (g:=gn) ⟨hN.keep hbe⟩;rw[ht2]at hsl;have HSP:=aA hsp;have HSL:=aA hsl;have HCL:=aA (show y1.cells.length=20 from hr1.size);have HBS:=aA (show (prog.info? 30).map (·.size)=some (b8 sl2).length by rw[dU,uJ.len];exact lh);have HY5:=aA (show y5.cells.toArray.size=20 by rw[List.size_toArray];exact hr5.size);clear hsp hsl hy5;go_upto_region 11 with (first
   | (refine bD rfl 30 _ rfl ⟨gn,4,none⟩ (.agg (b8 sl2).toArray) rfl HSL.out ?_)
   | (refine wQ rfl 30 _ _ rfl wd.heap.size 4 (b8 sl2) rfl rfl _ y1.cells hC0 HBS.out (by rw[dU,uJ.len,HCL.out];omega) (nC sl2) ?_))
  (try dsimp only[Act.put]);rw[HSP.out];generalize hwx:World.setRow _ _ _=wf;have hC:aQ wf wd.heap.size 32 y5.cells.toArray:=by rw[<-hwx];exact setRow_heap _ _ _ _ _ _ hC0
  have hbx:aF wd wf:=by rw[<-hwx];exact below_setRow hbe (Nat.le_refl _) _
  (replace hK:=hK.keep hbx;replace hA:=hA.keep hbx;replace hB:=hB.keep hbx;replace hT:=hT.keep hbx;replace hr1:=hr1.keep hbx;replace hN:=hN.keep hbx;replace hr2:=hr2.keep hbx;replace hG:=hG.keep hbx;replace hEa:=hEa.keep hbx;replace hE10:=hE10.keep hbx;replace hE11:=hE11.keep hbx;replace hW:=aV hW hbx);replace hr5:=hr5.keep hbx;generalize hgc:wd.heap.size=gc at *;clear hwx hbx hgc hbe hC0 HSP HSL HCL HBS we;go_upto_region 12 with (first
   | (refine bD rfl 32 _ rfl ⟨gn,0,none⟩ (.agg y2.cells.toArray) rfl (dY hN HY2.out) ?_)
   | (go_at_call 19;refine (QJ (HL.out _ hW) hr2 ht2).mono ?_;rintro e w7 ⟨hbx,m,rfl,hrm⟩;simp only[oJ];(replace hK:=hK.keep hbx;replace hA:=hA.keep hbx;replace hB:=hB.keep hbx;replace hT:=hT.keep hbx;replace hr1:=hr1.keep hbx;replace hN:=hN.keep hbx;replace hr2:=hr2.keep hbx;replace hG:=hG.keep hbx;replace hEa:=hEa.keep hbx;replace hE10:=hE10.keep hbx;replace hE11:=hE11.keep hbx;replace hC:=hC.keep hbx;replace hr5:=hr5.keep hbx;replace hW:=aV hW hbx);clear hbx)
   | (refine wpList_store_row rfl 27 _ _ rfl w7.heap.size (dS mS m) rfl rfl _ fU (heap_alloc_new w7 _) lq rfl (lu _ _) ?_))
  (try dsimp only[Act.put]);generalize hwx:World.setRow _ _ _=wg;have hM:aQ wg w7.heap.size 27 (dS mS m):=by rw[<-hwx];exact setRow_heap _ _ _ _ _ _ (heap_alloc_new w7 _)
  have hbx:aF w7 wg:=uI;(replace hK:=hK.keep hbx;replace hA:=hA.keep hbx;replace hB:=hB.keep hbx;replace hT:=hT.keep hbx;replace hr1:=hr1.keep hbx;replace hN:=hN.keep hbx;replace hr2:=hr2.keep hbx;replace hG:=hG.keep hbx;replace hEa:=hEa.keep hbx;replace hE10:=hE10.keep hbx;replace hE11:=hE11.keep hbx;replace hC:=hC.keep hbx;replace hr5:=hr5.keep hbx;replace hW:=aV hW hbx);replace hrm:=hrm.keep hbx;generalize hgm:w7.heap.size=gm at *;clear hwx hbx hgm;have c3:wg.cell? ⟨gn,3,none⟩=some (.slice y2.A 2 y2.c):=by
   have:=hN.cell (k:=3) (v:=.slice y2.A y2.t.conds.length y2.c) rfl;rw[ht2]at this;exact this
  go_upto_region 14 with (first
   | (go_big_want;refine jE 32 _ rfl ⟨gn,0,none⟩ (.agg y2.cells.toArray) rfl (dY hN HY2.out) ?_;simp only[Act.put,ag])
   | (go_at_call 14;refine (QK (HL.out _ hW) hr2 ht2).mono ?_;rintro e w8 ⟨rfl,hbx⟩;(replace hK:=hK.keep hbx;replace hA:=hA.keep hbx;replace hB:=hB.keep hbx;replace hT:=hT.keep hbx;replace hr1:=hr1.keep hbx;replace hN:=hN.keep hbx;replace hr2:=hr2.keep hbx;replace hG:=hG.keep hbx;replace hEa:=hEa.keep hbx;replace hE10:=hE10.keep hbx;replace hE11:=hE11.keep hbx;replace hC:=hC.keep hbx;replace hr5:=hr5.keep hbx;replace hM:=hM.keep hbx;replace hrm:=hrm.keep hbx;replace hW:=aV hW hbx);have c3:=aW hbx c3;clear hbx))
  clear c3;obtain⟨S,hSd⟩:∃ S,S=wP w gt gn gr ge g10 g11 gc gm y1 y2 y5 m:=⟨_,rfl⟩;have hS:S w8:=by rw[hSd];exact⟨hT,hN,hG,hEa,hE10,hE11,hC,hM,hr1,hr2,hr5,hrm,hW⟩
  have hsk:∀ W W',S W->aF W W'->S W':=by rw[hSd];exact fun _ _ h hb=>h.keep hb
  have ldT:∀ W,S W->(loadVar 32 ⟨gt,0,none⟩).run prog W=.ok (.agg y1.cells.toArray) W:=by rw[hSd];exact fun W h=>dY h.t HY1.out
  have ldN:∀ W,S W->(loadVar 32 ⟨gn,0,none⟩).run prog W=.ok (.agg y2.cells.toArray) W:=by rw[hSd];exact fun W h=>dY h.n HY2.out
  have ldC:∀ W,S W->(loadVar 32 ⟨gc,0,none⟩).run prog W=.ok (.agg y5.cells.toArray) W:=by rw[hSd];exact fun W h=>dY h.c HY5.out
  have ldE:∀ W,S W->(loadVar 59 ⟨ge,0,none⟩).run prog W=.ok (.agg (#[.string (⟨#[97,99,109,101,47,120]⟩:aC),.string (⟨#[98,111,98]⟩:aC),.string (⟨#[100,101]⟩:aC),.int .i64 0,.int .i64 5,.int .i64 5]:Array Value)) W:=by rw[hSd];exact fun W h=>wR h.e rfl
  have ldL:∀ W,S W->(loadVar 59 ⟨g10,0,none⟩).run prog W=.ok (.agg (#[.string (⟨#[97,99,109,101,47,120]⟩:aC),.string (⟨#[98,111,98]⟩:aC),.string (⟨#[100,101]⟩:aC),.int .i64 0,.int .i64 20,.int .i64 21]:Array Value)) W:=by rw[hSd];exact fun W h=>wR h.l rfl
  have ldO:∀ W,S W->(loadVar 59 ⟨g11,0,none⟩).run prog W=.ok (.agg (#[.string (⟨#[98,111,108,116,47,120]⟩:aC),.string (⟨#[98,111,98]⟩:aC),.string (⟨#[100,101]⟩:aC),.int .i64 0,.int .i64 5,.int .i64 5]:Array Value)) W:=by rw[hSd];exact fun W h=>wR h.o rfl
  have ldM:∀ W,S W->(loadVar 27 ⟨gm,0,none⟩).run prog W=.ok (.agg (dS mS m)) W:=by rw[hSd];exact fun W h=>iO h.m rfl
  have k1:∀ W,S W->Calls prog 29 #[.slice (some ⟨gr,0,none⟩) 1 1,.agg y1.cells.toArray,.agg (#[.string (⟨#[97,99,109,101,47,120]⟩:aC),.string (⟨#[98,111,98]⟩:aC),.string (⟨#[100,101]⟩:aC),.int .i64 0,.int .i64 5,.int .i64 5]:Array Value)] W (Ret W (.int .i64 0)):=by rw[hSd];exact fun W h=>Ea (HL.out _ h.b) h.r1 ht1 h.g lZ EX QL
  have k2:∀ W,S W->Calls prog 29 #[.slice (some ⟨gr,0,none⟩) 1 1,.agg y2.cells.toArray,.agg (#[.string (⟨#[97,99,109,101,47,120]⟩:aC),.string (⟨#[98,111,98]⟩:aC),.string (⟨#[100,101]⟩:aC),.int .i64 0,.int .i64 5,.int .i64 5]:Array Value)] W (Ret W (.int .i64 250)):=by rw[hSd];exact fun W h=>Eb (HL.out _ h.b) h.r2 ht2 h.g lZ EX QM
  have k3:∀ W,S W->Calls prog 29 #[.slice (some ⟨gr,0,none⟩) 1 1,.agg y2.cells.toArray,.agg (#[.string (⟨#[97,99,109,101,47,120]⟩:aC),.string (⟨#[98,111,98]⟩:aC),.string (⟨#[100,101]⟩:aC),.int .i64 0,.int .i64 20,.int .i64 21]:Array Value)] W (Ret W (.int .i64 0)):=by rw[hSd];exact fun W h=>Eb (HL.out _ h.b) h.r2 ht2 h.g mr EY QN
  have k4:∀ W,S W->Calls prog 29 #[.slice (some ⟨gr,0,none⟩) 1 1,.agg y5.cells.toArray,.agg (#[.string (⟨#[97,99,109,101,47,120]⟩:aC),.string (⟨#[98,111,98]⟩:aC),.string (⟨#[100,101]⟩:aC),.int .i64 0,.int .i64 20,.int .i64 21]:Array Value)] W (Ret W (.int .i64 8)):=by rw[hSd];exact fun W h=>QO (HL.out _ h.b) h.r5 ht5 h.g mr EY QP
  have k5:∀ W,S W->Calls prog 29 #[.slice (some ⟨gr,0,none⟩) 1 1,.agg y1.cells.toArray,.agg (#[.string (⟨#[98,111,108,116,47,120]⟩:aC),.string (⟨#[98,111,98]⟩:aC),.string (⟨#[100,101]⟩:aC),.int .i64 0,.int .i64 5,.int .i64 5]:Array Value)] W (Ret W (.int .i64 250)):=by rw[hSd];exact fun W h=>Ea (HL.out _ h.b) h.r1 ht1 h.g uH QE QR
  have ktx:∀ W,S W->Calls prog 35 #[.agg y2.cells.toArray] W (Ret W (.tuple #[.string (jF nS),.int .i64 0])):=by rw[hSd];exact fun W h=>QS (HL.out _ h.b) h.r2 ht2
  have kpa:∀ W,S W->Calls prog 37 #[.string (jF nS)] W (jQ nS 0 W):=by rw[hSd];exact fun W h=>QT (HL.out _ h.b)
  have ksm:∀ W,S W->Calls prog 21 #[.agg (dS mS m),.agg (#[.int .i64 10,.int .i64 50,.string (⟨#[97,99,109,101,47,42,42]⟩:aC),.slice none 0 0,.slice none 0 0,.slice none 0 0,.int .i64 0]:Array Value)] W (Ret W (.bool true)):=by rw[hSd];exact fun W h=>QU m W h.rm
  have ks5:∀(y3:ah)(W:World),S W->bZ W y3->y3.t=nS->Calls prog 16 #[.agg y3.cells.toArray,.agg y2.cells.toArray] W (Ret W (.bool true)):=by rw[hSd];exact fun y3 W h hr3 ht3=>QW hr3 h.r2 ht3 ht2
  have ki1:∀ W,S W->Calls prog 22 #[.agg y1.cells.toArray] W (Ret W (.agg (b8 (jR nS)).toArray)):=by rw[hSd];exact fun W h=>QX (HL.out _ h.b) h.r1 ht1
  have ki2:∀ W,S W->Calls prog 22 #[.agg y2.cells.toArray] W (Ret W (.agg (b8 (jR nS)).toArray)):=by rw[hSd];exact fun W h=>QY (HL.out _ h.b) h.r2 ht2
  have kus:∀ W,S W->Calls prog 24 #[.agg y2.cells.toArray] W (Ret W (.int .i64 0)):=by rw[hSd];exact fun W h=>QZ (HL.out _ h.b) h.r2 ht2
  have hbW:∀ W,S W->aF w W:=by rw[hSd];exact fun W h=>h.b
  have hdg:=fun W=>Qa (jR nS) (jR nS) (qC _ _) (qC _ _) W
  rw[show decide (jR nS=jR nS)=true from decide_eq_true rfl]at hdg;generalize (b8 (jR nS)).toArray=DG at *;generalize jF nS=TX at *;generalize y1.cells.toArray=Y1 at *;generalize y2.cells.toArray=Y2 at *;generalize y5.cells.toArray=Y5 at *;generalize dS mS m=MX at *;generalize (#[.string (⟨#[97,99,109,101,47,120]⟩:aC),.string (⟨#[98,111,98]⟩:aC),.string (⟨#[100,101]⟩:aC),.int .i64 0,.int .i64 5,.int .i64 5]:Array Value)=XE at *;generalize (#[.string (⟨#[97,99,109,101,47,120]⟩:aC),.string (⟨#[98,111,98]⟩:aC),.string (⟨#[100,101]⟩:aC),.int .i64 0,.int .i64 20,.int .i64 21]:Array Value)=XL at *;generalize (#[.string (⟨#[98,111,108,116,47,120]⟩:aC),.string (⟨#[98,111,98]⟩:aC),.string (⟨#[100,101]⟩:aC),.int .i64 0,.int .i64 5,.int .i64 5]:Array Value)=XO at *;have LDT:=aA ldT;have LDN:=aA ldN;have LDC:=aA ldC;have LDE:=aA ldE;have LDL:=aA ldL;have LDO:=aA ldO;have LDM:=aA ldM;have C1:=aA k1;have C2:=aA k2;have C3:=aA k3;have C4:=aA k4;have C5:=aA k5;have KTX:=aA ktx;have KPA:=aA kpa;have KSM:=aA ksm;have KS5:=aA ks5;have KI1:=aA ki1;have KI2:=aA ki2;have KUS:=aA kus;have HBW:=aA hbW;have HDG:=aA hdg;have HSK:=aA hsk;clear hSd hsk ldT ldN ldC ldE ldL ldO ldM k1 k2 k3 k4 k5 ktx kpa ksm ks5 ki1 ki2 kus hbW hdg hK hA hB hT hN hG hEa hE10 hE11 hC hM hr1 hr2 hr5 hrm hW HY1 HY2 HY5 HL ht1 ht2 ht5;go_upto_region 15 with (first
   | (first | (refine bD rfl 32 _ rfl ⟨gt,0,none⟩ (.agg Y1) rfl (LDT.out _ hS) ?_) | (go_big_want;refine jE 32 _ rfl ⟨gt,0,none⟩ (.agg Y1) rfl (LDT.out _ hS) ?_;simp only[Act.put,ag]))
   | (first | (refine bD rfl 32 _ rfl ⟨gn,0,none⟩ (.agg Y2) rfl (LDN.out _ hS) ?_) | (go_big_want;refine jE 32 _ rfl ⟨gn,0,none⟩ (.agg Y2) rfl (LDN.out _ hS) ?_;simp only[Act.put,ag]))
   | (go_big_want;refine jE 32 _ rfl ⟨gc,0,none⟩ (.agg Y5) rfl (LDC.out _ hS) ?_;simp only[Act.put,ag])
   | (first | (refine bD rfl 59 _ rfl ⟨ge,0,none⟩ (.agg XE) rfl (LDE.out _ hS) ?_) | (go_big_want;refine jE 59 _ rfl ⟨ge,0,none⟩ (.agg XE) rfl (LDE.out _ hS) ?_;simp only[Act.put,ag]))
   | (go_big_want;refine jE 59 _ rfl ⟨g10,0,none⟩ (.agg XL) rfl (LDL.out _ hS) ?_;simp only[Act.put,ag])
   | (go_big_want;refine jE 59 _ rfl ⟨g11,0,none⟩ (.agg XO) rfl (LDO.out _ hS) ?_;simp only[Act.put,ag])
   | (go_at_call 29;first
     | (refine (C1.out _ hS).mono ?_;clear C1;(rintro e w8 ⟨rfl,hbx⟩;replace hS:=HSK.out _ _ hS hbx;clear hbx))
     | (refine (C2.out _ hS).mono ?_;clear C2;(rintro e w8 ⟨rfl,hbx⟩;replace hS:=HSK.out _ _ hS hbx;clear hbx))
     | (refine (C3.out _ hS).mono ?_;clear C3;(rintro e w8 ⟨rfl,hbx⟩;replace hS:=HSK.out _ _ hS hbx;clear hbx))
     | (refine (C4.out _ hS).mono ?_;clear C4;(rintro e w8 ⟨rfl,hbx⟩;replace hS:=HSK.out _ _ hS hbx;clear hbx))
     | (refine (C5.out _ hS).mono ?_;clear C5;(rintro e w8 ⟨rfl,hbx⟩;replace hS:=HSK.out _ _ hS hbx;clear hbx))))
  clear LDC LDE LDL LDO;go_upto_region 16 with (first
   | (first | (refine bD rfl 32 _ rfl ⟨gn,0,none⟩ (.agg Y2) rfl (LDN.out _ hS) ?_) | (go_big_want;refine jE 32 _ rfl ⟨gn,0,none⟩ (.agg Y2) rfl (LDN.out _ hS) ?_;simp only[Act.put,ag]))
   | (go_at_call 35;refine (KTX.out _ hS).mono ?_;(rintro e w8 ⟨rfl,hbx⟩;replace hS:=HSK.out _ _ hS hbx;clear hbx)))
  clear KTX;go_upto_region 17 with (first
   | (go_at_call 37;refine (KPA.out _ hS).mono ?_;rintro e w9 ⟨hbx,y3,rfl,hr3,ht3⟩;simp only[zQ];replace hS:=HSK.out _ _ hS hbx;clear hbx)
   | (refine wpList_store_row rfl 32 _ _ rfl w9.heap.size y3.cells.toArray rfl rfl _ bf (heap_alloc_new w9 _) (kH hr3).1 (kH hr3).2.1 (kH hr3).2.2 ?_))
  (try dsimp only[Act.put]);generalize hwx:World.setRow _ _ _=wh;have hU:aQ wh w9.heap.size 32 y3.cells.toArray:=by rw[<-hwx];exact setRow_heap _ _ _ _ _ _ (heap_alloc_new w9 _)
  have hbx:aF w9 wh:=uI;replace hS:=HSK.out _ _ hS hbx;replace hr3:=hr3.keep hbx;have HY3:=aA (show y3.cells.toArray.size=20 by rw[List.size_toArray];exact hr3.size);generalize hgu:w9.heap.size=gu at *;clear hwx hbx hgu;obtain⟨S2,hSd⟩:∃ S2:World->Prop,S2=fun W=>S W/\aQ W gu 32 y3.cells.toArray/\bZ W y3:=⟨_,rfl⟩
  have hS2:S2 wh:=by rw[hSd];exact⟨hS,hU,hr3⟩
  have hsk2:∀ W W',S2 W->aF W W'->S2 W':=by rw[hSd];exact fun _ _ h hb=>⟨HSK.out _ _ h.1 hb,h.2.1.keep hb,h.2.2.keep hb⟩
  have hs1:∀ W,S2 W->S W:=by rw[hSd];exact fun _ h=>h.1
  have ldU:∀ W,S2 W->(loadVar 32 ⟨gu,0,none⟩).run prog W=.ok (.agg y3.cells.toArray) W:=by rw[hSd];exact fun W h=>dY h.2.1 HY3.out
  have ks5:∀ W,S2 W->Calls prog 16 #[.agg y3.cells.toArray,.agg Y2] W (Ret W (.bool true)):=by rw[hSd];exact fun W h=>KS5.out y3 W h.1 h.2.2 ht3
  generalize y3.cells.toArray=Y3 at *;have LDU:=aA ldU;have KS6:=aA ks5;have HS1:=aA hs1;have HK2:=aA hsk2;have HS2:=aA hS2;clear hSd hsk2 hs1 ldU ks5 hS2 hS hU hr3 HY3 KS5 ht3 HSK KPA;have ki:∀(Y:Array Value),(Y=Y1\/Y=Y2)->∀ W,S W->Calls prog 22 #[.agg Y] W (Ret W (.agg DG)):=by
   intro Y h;rcases h with h | h
   ·rw[h];exact KI1.out
   ·rw[h];exact KI2.out
  have KI:=aA ki;clear ki KI1 KI2;refine Ec 32 aG aG aG (fun i=>[.bool true,.bool true,.agg MX,.agg (#[.int .i64 10,.int .i64 50,.string (⟨#[97,99,109,101,47,42,42]⟩:aC),.slice none 0 0,.slice none 0 0,.slice none 0 0,.int .i64 0]:Array Value),.bool true,.bool true,.bool true,.int .i64 0,.bool true,.bool true,.bool true,.int .i64 0,.bool true,.bool true,.bool true,.agg Y3,.agg Y2,.bool true,.bool true,.bool true,.agg Y1,.agg DG,.agg Y2,.agg DG,.bool true,.bool true,.bool true,.agg Y2,.int .i64 0,.bool true,.bool true,.bool true].getD i undef) S2 (HK2.out _ _ HS2.out (Below.drew (Below.refl _ _))) (fun _ _ h hb=>HK2.out _ _ h hb) ?_ ?_
  ·simp only[aZ,bH,Act.put];refine⟨fun W hS=>?_,fun W hS=>?_,fun W hS=>?_,fun W hS=>?_,fun W hS=>?_,fun W hS=>?_,fun W hS=>?_,fun W hS=>?_,fun W hS=>?_,fun W hS=>?_,fun W hS=>?_,fun W hS=>?_,fun W hS=>?_,fun W hS=>?_,fun W hS=>?_,fun W hS=>?_,fun W hS=>?_,fun W hS=>?_,fun W hS=>?_,fun W hS=>?_,fun W hS=>?_,fun W hS=>?_,fun W hS=>?_,fun W hS=>?_,fun W hS=>?_,fun W hS=>?_,fun W hS=>?_,fun W hS=>?_,fun W hS=>?_,fun W hS=>?_,fun W hS=>?_,fun W hS=>?_,trivial⟩;all_goals
    have hs:=HS1.out _ hS;have e2:=HDG.out W;go_wp2_with (first
     | (refine rE aG 27 _ rfl ⟨gm,0,none⟩ (.agg MX) rfl (LDM.out _ hs) ?_)
     | (refine rE aG 32 _ rfl ⟨gu,0,none⟩ (.agg Y3) rfl (LDU.out _ hS) ?_)
     | (refine rE aG 32 _ rfl ⟨gn,0,none⟩ (.agg Y2) rfl (LDN.out _ hs) ?_)
     | (refine rE aG 32 _ rfl ⟨gt,0,none⟩ (.agg Y1) rfl (LDT.out _ hs) ?_)
     | (go_at_call 21;refine (KSM.out _ hs).mono ?_;rintro e w8 ⟨rfl,hb8⟩)
     | (go_at_call 16;refine (KS6.out _ hS).mono ?_;rintro e w8 ⟨rfl,hb8⟩)
     | (go_at_call 24;refine (KUS.out _ hs).mono ?_;rintro e w8 ⟨rfl,hb8⟩)
     | (go_at_call 22;refine (KI.out _ (by first | exact .inl rfl | exact .inr rfl) _ hs).mono ?_;rintro e w8 ⟨rfl,hb8⟩))
    exact⟨rfl,rfl,zU⟩
  intro wz hSz;simp only[aZ,bH,Act.put];have hbz:=HBW.out _ (HS1.out _ hSz);go_wp2;go_ret;exact⟨rfl,hbz⟩
end Go.Proofs.YtlkbkclnbppigaaGreatDoor
