/- Layer 25's example: the law's sanity returns true. -/
import Derived.Test.YtlkbkclnbppigaaGreatDoorIZ45
import Derived.Test.YtlkbkclnbppigaaGreatDoorIZ19
set_option maxHeartbeats 32000000
namespace Go.Proofs.YtlkbkclnbppigaaGreatDoor
open Go.RowKit Go.Sort
set_option linter.unusedVariables false
set_option linter.unusedSimpArgs false
set_option maxRecDepth 100000
theorem cells_val (y:TokM):y.val=.agg y.cells.toArray:=rfl
theorem tok_store {W:World} {y:TokM} (h:TokReads W y):((Tryz.prog.info? 32).map (·.size)=some y.cells.toArray.size)∧((#[.int .i64 0,.int .i64 0,.string ⟨#[]⟩,.slice none 0 0,.int .u8 0,.int .u8 0,.int .u8 0,.int .u8 0,.int .u8 0,.int .u8 0,.int .u8 0,.int .u8 0,.int .u8 0,.int .u8 0,.int .u8 0,.int .u8 0,.int .u8 0,.int .u8 0,.int .u8 0,.int .u8 0]:Array Value)).size=y.cells.toArray.size∧y.cells.toArray.all (·.oneCell')=true:=by
 have e:y.cells.toArray.size=20:=by rw[List.size_toArray];exact h.size
 exact⟨by rw[e];exact infTok,by rw[e];rfl,tok_one _ _ _ _ _ _ _⟩
theorem infAsk:(Tryz.prog.info? 59).map (·.size)=some 6:=by kernel_rfl
theorem two_asks (W:World) (a b:Nat) (hab:a≠b) (ha:a=W.heap.size∨a=W.heap.size+1) (hb:b=W.heap.size∨b=W.heap.size+1) {Z X:Array Value} {t:TypeId} :
  Box1 ((((W.alloc (.cells Z t)).alloc (.cells Z t)).setRow a X).setRow b X) a t X∧Box1 ((((W.alloc (.cells Z t)).alloc (.cells Z t)).setRow a X).setRow b X) b t X∧Below W.heap.size W ((((W.alloc (.cells Z t)).alloc (.cells Z t)).setRow a X).setRow b X)∧Box1 (((W.alloc (.cells Z t)).alloc (.cells Z t)).setRow a X) b t Z∧Box1 ((W.alloc (.cells Z t)).alloc (.cells Z t)) a t Z:=by
 have h2:=alloc2_box W (.cells Z t) (.cells Z t)
 have hA:Box1 ((W.alloc (.cells Z t)).alloc (.cells Z t)) a t Z:=by rcases ha with rfl | rfl;exact h2.1;exact h2.2
 have hB:Box1 ((W.alloc (.cells Z t)).alloc (.cells Z t)) b t Z:=by rcases hb with rfl | rfl;exact h2.1;exact h2.2
 have hB1:Box1 (((W.alloc (.cells Z t)).alloc (.cells Z t)).setRow a X) b t Z:=(setRow_other _ _ _ _ (Ne.symm hab)).trans hB
 have hA1:Box1 (((W.alloc (.cells Z t)).alloc (.cells Z t)).setRow a X) a t X:=setRow_heap _ _ _ _ _ _ hA
 exact⟨(setRow_other _ _ _ _ hab).trans hA1,setRow_heap _ _ _ _ _ _ hB1,below_setRow (below_setRow (balloc (balloc (Below.refl _ _) _) _) (by omega) _) (by omega) _,hB1,hA⟩
theorem fit1:AskFits earlyS:=ask_fits _ (by decide) (by decide) (by decide)
theorem fit2:AskFits laterS:=ask_fits _ (by decide) (by decide) (by decide)
theorem fit3:AskFits otherS:=ask_fits _ (by decide) (by decide) (by decide)
structure SanS (w:World) (gt gn gr ge g10 g11 gc gm:Nat) (y1 y2 y5:TokM) (mm:CondMem) (W:World):Prop where
 t:Box1 W gt 32 y1.cells.toArray
 n:Box1 W gn 32 y2.cells.toArray
 g:Box1 W gr 23 (#[.int .i64 9,.int .i64 1,.string (⟨#[107]⟩:ByteArray),.int .i64 0,.int .i64 1000]:Array Value)
 e:Box1 W ge 59 (#[.string (⟨#[97,99,109,101,47,120]⟩:ByteArray),.string (⟨#[98,111,98]⟩:ByteArray),.string (⟨#[100,101]⟩:ByteArray),.int .i64 0,.int .i64 5,.int .i64 5]:Array Value)
 l:Box1 W g10 59 (#[.string (⟨#[97,99,109,101,47,120]⟩:ByteArray),.string (⟨#[98,111,98]⟩:ByteArray),.string (⟨#[100,101]⟩:ByteArray),.int .i64 0,.int .i64 20,.int .i64 21]:Array Value)
 o:Box1 W g11 59 (#[.string (⟨#[98,111,108,116,47,120]⟩:ByteArray),.string (⟨#[98,111,98]⟩:ByteArray),.string (⟨#[100,101]⟩:ByteArray),.int .i64 0,.int .i64 5,.int .i64 5]:Array Value)
 c:Box1 W gc 32 y5.cells.toArray
 m:Box1 W gm 27 (condA mS mm)
 r1:TokReads W y1
 r2:TokReads W y2
 r5:TokReads W y5
 rm:CondReads W mS mm
 b:Below w.heap.size w W
theorem SanS.keep {w W W':World} {gt gn gr ge g10 g11 gc gm:Nat} {y1 y2 y5:TokM} {mm:CondMem} (h:SanS w gt gn gr ge g10 g11 gc gm y1 y2 y5 mm W) (hb:Below W.heap.size W W'):SanS w gt gn gr ge g10 g11 gc gm y1 y2 y5 mm W' :=
 ⟨h.t.keep hb,h.n.keep hb,h.g.keep hb,h.e.keep hb,h.l.keep hb,h.o.keep hb,h.c.keep hb,h.m.keep hb,h.r1.keep hb,h.r2.keep hb,h.r5.keep hb,h.rm.keep hb,bstep h.b hb⟩
theorem san25_any (w:World) (hL:LawE w):Calls Tryz.prog 11 #[] w (Ret w (.bool true)):=by
 have HL:=Lib.hid (fun (W:World) (hb:Below w.heap.size w W)=>hL.keep hb)
 clear hL
 go_enter Tryz.func11,Tryz.ntmps11
 go_upto_region 3 with fail
 generalize hw0:World.alloc _ _=w0
 have hK:Box1 w0 w.heap.size 23 (#[.int .i64 9,.int .i64 1,.string (⟨#[107]⟩:ByteArray),.int .i64 0,.int .i64 1000]:Array Value):=by rw[←hw0];exact (alloc3_box w _ _ _).1
 have hA:Box1 w0 (w.heap.size+1) 27 (#[.int .i64 0,.int .i64 100,.string (⟨#[97,99,109,101,47,42,42]⟩:ByteArray),.slice none 0 0,.slice none 0 0,.slice none 0 0,.int .i64 0]:Array Value):=by rw[←hw0];exact (alloc3_box w _ _ _).2.1
 have hB:Box1 w0 (w.heap.size+1+1) 27 (#[.int .i64 10,.int .i64 50,.string ⟨#[]⟩,.slice none 0 0,.slice none 0 0,.slice none 0 0,.int .i64 0]:Array Value):=by rw[←hw0];exact (alloc3_box w _ _ _).2.2
 have hW:Below w.heap.size w w0:=by rw[←hw0];exact belB
 clear hw0
 go_upto_region 4 with (first
  | (refine wpList_load_addr rfl 23 _ rfl ⟨w.heap.size,0,none⟩ (.agg (#[.int .i64 9,.int .i64 1,.string (⟨#[107]⟩:ByteArray),.int .i64 0,.int .i64 1000]:Array Value)) rfl (keyRow hK infKey) ?_)
  | (refine wpList_load_addr rfl 27 _ rfl ⟨w.heap.size+1,0,none⟩ (.agg (#[.int .i64 0,.int .i64 100,.string (⟨#[97,99,109,101,47,42,42]⟩:ByteArray),.slice none 0 0,.slice none 0 0,.slice none 0 0,.int .i64 0]:Array Value)) rfl (cond_row hA rfl) ?_)
  | (go_at_call 12;refine (st_mint (HL.out _ hW)).mono ?_;rintro e w1 ⟨hbx,y1,rfl,hr1,ht1⟩;simp only[cells_val];(replace hK:=hK.keep hbx;replace hA:=hA.keep hbx;replace hB:=hB.keep hbx;replace hW:=bstep hW hbx);clear hbx)
  | (refine wpList_store_row rfl 32 _ _ rfl w1.heap.size y1.cells.toArray rfl rfl _ (#[.int .i64 0,.int .i64 0,.string ⟨#[]⟩,.slice none 0 0,.int .u8 0,.int .u8 0,.int .u8 0,.int .u8 0,.int .u8 0,.int .u8 0,.int .u8 0,.int .u8 0,.int .u8 0,.int .u8 0,.int .u8 0,.int .u8 0,.int .u8 0,.int .u8 0,.int .u8 0,.int .u8 0]:Array Value) (heap_alloc_new w1 _) (tok_store hr1).1 (tok_store hr1).2.1 (tok_store hr1).2.2 ?_))
 (try dsimp only[Act.put])
 generalize hwx:World.setRow _ _ _=w2
 have hT:Box1 w2 w1.heap.size 32 y1.cells.toArray:=by rw[←hwx];exact setRow_heap _ _ _ _ _ _ (heap_alloc_new w1 _)
 have hbx:Below w1.heap.size w1 w2:=by rw[←hwx];exact below_setRow (below_alloc _ _) (Nat.le_refl _) _
 (replace hK:=hK.keep hbx;replace hA:=hA.keep hbx;replace hB:=hB.keep hbx;replace hW:=bstep hW hbx)
 replace hr1:=hr1.keep hbx
 have HY1:=Lib.hid (show y1.cells.toArray.size=20 by rw[List.size_toArray];exact hr1.size)
 generalize hgt:w1.heap.size=gt at *
 clear hwx hbx hgt
 go_upto_region 5 with (first
  | (refine wpList_load_addr rfl 32 _ rfl ⟨gt,0,none⟩ (.agg y1.cells.toArray) rfl (tok_row hT HY1.out) ?_)
  | (refine wpList_load_addr rfl 27 _ rfl ⟨w.heap.size+1+1,0,none⟩ (.agg (#[.int .i64 10,.int .i64 50,.string ⟨#[]⟩,.slice none 0 0,.slice none 0 0,.slice none 0 0,.int .i64 0]:Array Value)) rfl (cond_row hB rfl) ?_)
  | (go_at_call 17;refine (st_narrow (HL.out _ hW) hr1 ht1).mono ?_;rintro e w3 ⟨hbx,y2,rfl,hr2,ht2⟩;simp only[cells_val];(replace hK:=hK.keep hbx;replace hA:=hA.keep hbx;replace hB:=hB.keep hbx;replace hT:=hT.keep hbx;replace hr1:=hr1.keep hbx;replace hW:=bstep hW hbx);clear hbx)
  | (refine wpList_store_row rfl 32 _ _ rfl w3.heap.size y2.cells.toArray rfl rfl _ (#[.int .i64 0,.int .i64 0,.string ⟨#[]⟩,.slice none 0 0,.int .u8 0,.int .u8 0,.int .u8 0,.int .u8 0,.int .u8 0,.int .u8 0,.int .u8 0,.int .u8 0,.int .u8 0,.int .u8 0,.int .u8 0,.int .u8 0,.int .u8 0,.int .u8 0,.int .u8 0,.int .u8 0]:Array Value) (heap_alloc_new w3 _) (tok_store hr2).1 (tok_store hr2).2.1 (tok_store hr2).2.2 ?_))
 (try dsimp only[Act.put])
 generalize hwx:World.setRow _ _ _=w4
 have hN:Box1 w4 w3.heap.size 32 y2.cells.toArray:=by rw[←hwx];exact setRow_heap _ _ _ _ _ _ (heap_alloc_new w3 _)
 have hbx:Below w3.heap.size w3 w4:=by rw[←hwx];exact below_setRow (below_alloc _ _) (Nat.le_refl _) _
 (replace hK:=hK.keep hbx;replace hA:=hA.keep hbx;replace hB:=hB.keep hbx;replace hT:=hT.keep hbx;replace hr1:=hr1.keep hbx;replace hW:=bstep hW hbx)
 replace hr2:=hr2.keep hbx
 have HY2:=Lib.hid (show y2.cells.toArray.size=20 by rw[List.size_toArray];exact hr2.size)
 generalize hgn:w3.heap.size=gn at *
 clear hwx hbx hgn
 go_upto_region 6 with (refine wpList_load_addr rfl 23 _ rfl ⟨w.heap.size,0,none⟩ (.agg (#[.int .i64 9,.int .i64 1,.string (⟨#[107]⟩:ByteArray),.int .i64 0,.int .i64 1000]:Array Value)) rfl (keyRow hK infKey) ?_)
 generalize hwx:World.alloc _ _=w5
 have hG:Box1 w5 w4.heap.size 23 (#[.int .i64 9,.int .i64 1,.string (⟨#[107]⟩:ByteArray),.int .i64 0,.int .i64 1000]:Array Value):=by rw[←hwx];exact heap_alloc_new w4 _
 have hbx:Below w4.heap.size w4 w5:=by rw[←hwx];exact below_alloc _ _
 (replace hK:=hK.keep hbx;replace hA:=hA.keep hbx;replace hB:=hB.keep hbx;replace hT:=hT.keep hbx;replace hr1:=hr1.keep hbx;replace hN:=hN.keep hbx;replace hr2:=hr2.keep hbx;replace hW:=bstep hW hbx)
 generalize hgr:w4.heap.size=gr at *
 clear hwx hbx hgr
 go_upto_region 7 with fail
 generalize hwx:World.alloc _ _=w6
 have hEa:Box1 w6 w5.heap.size 59 (#[.string (⟨#[97,99,109,101,47,120]⟩:ByteArray),.string (⟨#[98,111,98]⟩:ByteArray),.string (⟨#[100,101]⟩:ByteArray),.int .i64 0,.int .i64 5,.int .i64 5]:Array Value):=by rw[←hwx];exact heap_alloc_new w5 _
 have hbx:Below w5.heap.size w5 w6:=by rw[←hwx];exact below_alloc _ _
 (replace hK:=hK.keep hbx;replace hA:=hA.keep hbx;replace hB:=hB.keep hbx;replace hT:=hT.keep hbx;replace hr1:=hr1.keep hbx;replace hN:=hN.keep hbx;replace hr2:=hr2.keep hbx;replace hG:=hG.keep hbx;replace hW:=bstep hW hbx)
 generalize hge:w5.heap.size=ge at *
 clear hwx hbx hge
 have HE6:=Lib.hid hEa
 go_cut [10,11] (fun v10 v11 wx=>∃ g10 g11:Nat,v10=.pointer (some ⟨g10,0,none⟩)∧v11=.pointer (some ⟨g11,0,none⟩)∧g10≠g11∧w6.heap.size≤g10∧w6.heap.size≤g11∧Box1 wx g10 59 (#[.string (⟨#[97,99,109,101,47,120]⟩:ByteArray),.string (⟨#[98,111,98]⟩:ByteArray),.string (⟨#[100,101]⟩:ByteArray),.int .i64 0,.int .i64 5,.int .i64 5]:Array Value)∧Box1 wx g11 59 (#[.string (⟨#[97,99,109,101,47,120]⟩:ByteArray),.string (⟨#[98,111,98]⟩:ByteArray),.string (⟨#[100,101]⟩:ByteArray),.int .i64 0,.int .i64 5,.int .i64 5]:Array Value)∧Below w6.heap.size w6 wx)
 case first =>
  refine wp_region_noPanic ?_
  refine wp_region_held_drew (S:=fun W=>Box1 W ge 59 (#[.string (⟨#[97,99,109,101,47,120]⟩:ByteArray),.string (⟨#[98,111,98]⟩:ByteArray),.string (⟨#[100,101]⟩:ByteArray),.int .i64 0,.int .i64 5,.int .i64 5]:Array Value)∧Below w6.heap.size w6 W) (by kernel_rfl) ⟨HE6.out.keep (Below.drew (Below.refl _ _)),Below.drew (Below.refl _ _)⟩ (fun hS=>?_)
  refine wpAnyH_take (i:=0) (v:=.agg (#[.string (⟨#[97,99,109,101,47,120]⟩:ByteArray),.string (⟨#[98,111,98]⟩:ByteArray),.string (⟨#[100,101]⟩:ByteArray),.int .i64 0,.int .i64 5,.int .i64 5]:Array Value)) rfl (by kernel_rfl) (by kernel_rfl) (by kernel_rfl) (fun _ _ _ h=>h) (Or.inl ⟨by rfl,?tk0⟩) hS ?_
  case tk0=>(intro W hSW;have c0:=hSW.1.cell (k:=0) rfl;have c1:=hSW.1.cell (k:=1) rfl;have c2:=hSW.1.cell (k:=2) rfl;have c3:=hSW.1.cell (k:=3) rfl;have c4:=hSW.1.cell (k:=4) rfl;have c5:=hSW.1.cell (k:=5) rfl;go_simp;try with_reducible rfl)
  (try simp only[Act.put,List.setIfInBounds_toArray,List.set_cons_succ,List.set_cons_zero])
  refine wpAnyH_take (i:=1) (v:=.agg (#[.string (⟨#[97,99,109,101,47,120]⟩:ByteArray),.string (⟨#[98,111,98]⟩:ByteArray),.string (⟨#[100,101]⟩:ByteArray),.int .i64 0,.int .i64 5,.int .i64 5]:Array Value)) rfl (by kernel_rfl) (by kernel_rfl) (by kernel_rfl) (fun _ _ _ h=>h) (Or.inl ⟨by rfl,?tk1⟩) hS ?_
  case tk1=>(intro W hSW;have c0:=hSW.1.cell (k:=0) rfl;have c1:=hSW.1.cell (k:=1) rfl;have c2:=hSW.1.cell (k:=2) rfl;have c3:=hSW.1.cell (k:=3) rfl;have c4:=hSW.1.cell (k:=4) rfl;have c5:=hSW.1.cell (k:=5) rfl;go_simp;try with_reducible rfl)
  (try simp only[Act.put,List.setIfInBounds_toArray,List.set_cons_succ,List.set_cons_zero])
  have hw6d:w6.drew.heap.size=w6.heap.size:=rfl
  have hge6:ge<w6.heap.size:=(Array.getElem?_eq_some_iff.1 HE6.out).1
  refine wpAnyH_ready (rs:=[2,3]) (by kernel_rfl) (by simp) ?_
  refine AllReadyH.cons (o:=_) rfl (fun K hK=>?_) (AllReadyH.cons (o:=_) rfl (fun K hK=>?_) AllReadyH.nil)
  ·have h2:=two_asks w6.drew (w6.heap.size) (w6.heap.size+1) (by omega) (.inl rfl) (.inr rfl) (Z:=(#[.string ⟨#[]⟩,.string ⟨#[]⟩,.string ⟨#[]⟩,.int .i64 0,.int .i64 0,.int .i64 0]:Array Value)) (X:=(#[.string (⟨#[97,99,109,101,47,120]⟩:ByteArray),.string (⟨#[98,111,98]⟩:ByteArray),.string (⟨#[100,101]⟩:ByteArray),.int .i64 0,.int .i64 5,.int .i64 5]:Array Value)) (t:=59)
   have H2:=Lib.hid h2
   clear h2
   go_simp
   refine hK.out _ _ ⟨hS.1.keep (below_alloc _ _),balloc hS.2 _⟩ (fun hS2=>?_)
   clear hK K
   (try simp only[Act.put,List.setIfInBounds_toArray,List.set_cons_succ,List.set_cons_zero])
   refine wpAnyH_ready (rs:=[3]) (by kernel_rfl) (by simp) ?_
   refine AllReadyH.cons (o:=_) rfl (fun K hK=>?_) AllReadyH.nil
   go_simp
   refine hK.out _ _ ⟨hS2.1.keep (below_alloc _ _),balloc hS2.2 _⟩ (fun hS3=>?_)
   clear hK K
   (try simp only[Act.put,List.setIfInBounds_toArray,List.set_cons_succ,List.set_cons_zero])
   refine wpAnyH_ready (rs:=[4]) (by kernel_rfl) (by simp) ?_
   refine AllReadyH.cons (o:=_) rfl (fun K hK=>?_) AllReadyH.nil
   rw[if_pos (by rfl)]
   refine wp_store_row 59 _ _ (by rfl) (w6.heap.size) (#[.string (⟨#[97,99,109,101,47,120]⟩:ByteArray),.string (⟨#[98,111,98]⟩:ByteArray),.string (⟨#[100,101]⟩:ByteArray),.int .i64 0,.int .i64 5,.int .i64 5]:Array Value) (by rfl) (by rfl) _ (#[.string ⟨#[]⟩,.string ⟨#[]⟩,.string ⟨#[]⟩,.int .i64 0,.int .i64 0,.int .i64 0]:Array Value) H2.out.2.2.2.2 infAsk rfl (by rw[List.all_toArray];rfl) ?_
   refine hK.out _ _ ⟨(setRow_other _ _ _ _ (by omega)).trans hS3.1,below_setRow hS3.2 (by omega) _⟩ (fun hS4=>?_)
   clear hK K
   (try simp only[Act.put,List.setIfInBounds_toArray,List.set_cons_succ,List.set_cons_zero])
   refine wpAnyH_ready (rs:=[5]) (by kernel_rfl) (by simp) ?_
   refine AllReadyH.cons (o:=_) rfl (fun K hK=>?_) AllReadyH.nil
   rw[if_pos (by rfl)]
   refine wp_store_row 59 _ _ (by rfl) (w6.heap.size+1) (#[.string (⟨#[97,99,109,101,47,120]⟩:ByteArray),.string (⟨#[98,111,98]⟩:ByteArray),.string (⟨#[100,101]⟩:ByteArray),.int .i64 0,.int .i64 5,.int .i64 5]:Array Value) (by rfl) (by rfl) _ (#[.string ⟨#[]⟩,.string ⟨#[]⟩,.string ⟨#[]⟩,.int .i64 0,.int .i64 0,.int .i64 0]:Array Value) H2.out.2.2.2.1 infAsk rfl (by rw[List.all_toArray];rfl) ?_
   refine hK.out _ _ ⟨(setRow_other _ _ _ _ (by omega)).trans hS4.1,below_setRow hS4.2 (by omega) _⟩ (fun hS5=>?_)
   clear hK K
   (try simp only[Act.put,List.setIfInBounds_toArray,List.set_cons_succ,List.set_cons_zero])
   refine wpAnyH_done (by kernel_rfl) ?_ _
   refine NoPanic.normal ?_
   have HB5:=Lib.hid hS5.2
   clear hS hS2 hS3 hS4 hS5
   go_wp2_with fail
   go_meet
   exact⟨_,_,rfl,rfl,by omega,by omega,by omega,H2.out.1,H2.out.2.1,HB5.out⟩
  ·have h2:=two_asks w6.drew (w6.heap.size+1) (w6.heap.size) (by omega) (.inr rfl) (.inl rfl) (Z:=(#[.string ⟨#[]⟩,.string ⟨#[]⟩,.string ⟨#[]⟩,.int .i64 0,.int .i64 0,.int .i64 0]:Array Value)) (X:=(#[.string (⟨#[97,99,109,101,47,120]⟩:ByteArray),.string (⟨#[98,111,98]⟩:ByteArray),.string (⟨#[100,101]⟩:ByteArray),.int .i64 0,.int .i64 5,.int .i64 5]:Array Value)) (t:=59)
   have H2:=Lib.hid h2
   clear h2
   go_simp
   refine hK.out _ _ ⟨hS.1.keep (below_alloc _ _),balloc hS.2 _⟩ (fun hS2=>?_)
   clear hK K
   (try simp only[Act.put,List.setIfInBounds_toArray,List.set_cons_succ,List.set_cons_zero])
   refine wpAnyH_ready (rs:=[2]) (by kernel_rfl) (by simp) ?_
   refine AllReadyH.cons (o:=_) rfl (fun K hK=>?_) AllReadyH.nil
   go_simp
   refine hK.out _ _ ⟨hS2.1.keep (below_alloc _ _),balloc hS2.2 _⟩ (fun hS3=>?_)
   clear hK K
   (try simp only[Act.put,List.setIfInBounds_toArray,List.set_cons_succ,List.set_cons_zero])
   refine wpAnyH_ready (rs:=[4]) (by kernel_rfl) (by simp) ?_
   refine AllReadyH.cons (o:=_) rfl (fun K hK=>?_) AllReadyH.nil
   rw[if_pos (by rfl)]
   refine wp_store_row 59 _ _ (by rfl) (w6.heap.size+1) (#[.string (⟨#[97,99,109,101,47,120]⟩:ByteArray),.string (⟨#[98,111,98]⟩:ByteArray),.string (⟨#[100,101]⟩:ByteArray),.int .i64 0,.int .i64 5,.int .i64 5]:Array Value) (by rfl) (by rfl) _ (#[.string ⟨#[]⟩,.string ⟨#[]⟩,.string ⟨#[]⟩,.int .i64 0,.int .i64 0,.int .i64 0]:Array Value) H2.out.2.2.2.2 infAsk rfl (by rw[List.all_toArray];rfl) ?_
   refine hK.out _ _ ⟨(setRow_other _ _ _ _ (by omega)).trans hS3.1,below_setRow hS3.2 (by omega) _⟩ (fun hS4=>?_)
   clear hK K
   (try simp only[Act.put,List.setIfInBounds_toArray,List.set_cons_succ,List.set_cons_zero])
   refine wpAnyH_ready (rs:=[5]) (by kernel_rfl) (by simp) ?_
   refine AllReadyH.cons (o:=_) rfl (fun K hK=>?_) AllReadyH.nil
   rw[if_pos (by rfl)]
   refine wp_store_row 59 _ _ (by rfl) (w6.heap.size) (#[.string (⟨#[97,99,109,101,47,120]⟩:ByteArray),.string (⟨#[98,111,98]⟩:ByteArray),.string (⟨#[100,101]⟩:ByteArray),.int .i64 0,.int .i64 5,.int .i64 5]:Array Value) (by rfl) (by rfl) _ (#[.string ⟨#[]⟩,.string ⟨#[]⟩,.string ⟨#[]⟩,.int .i64 0,.int .i64 0,.int .i64 0]:Array Value) H2.out.2.2.2.1 infAsk rfl (by rw[List.all_toArray];rfl) ?_
   refine hK.out _ _ ⟨(setRow_other _ _ _ _ (by omega)).trans hS4.1,below_setRow hS4.2 (by omega) _⟩ (fun hS5=>?_)
   clear hK K
   (try simp only[Act.put,List.setIfInBounds_toArray,List.set_cons_succ,List.set_cons_zero])
   refine wpAnyH_done (by kernel_rfl) ?_ _
   refine NoPanic.normal ?_
   have HB5:=Lib.hid hS5.2
   clear hS hS2 hS3 hS4 hS5
   go_wp2_with fail
   go_meet
   exact⟨_,_,rfl,rfl,by omega,by omega,by omega,H2.out.1,H2.out.2.1,HB5.out⟩
 case rest =>
  obtain⟨g10,g11,rfl,rfl,hgg,hl10,hl11,hL10,hL11,hbx⟩:=hcut
  have c4:=hL10.cell (k:=4) rfl
  have c5:=hL10.cell (k:=5) rfl
  have f4:=frozen_of_row _ _ 4 _ _ hL10
  have f5:=frozen_of_row _ _ 5 _ _ hL10
  have c0:=hL11.cell (k:=0) rfl
  have f0:=frozen_of_row _ _ 0 _ _ hL11
  have HL10:=Lib.hid hL10;have HL11:=Lib.hid hL11;have HBX:=Lib.hid hbx
  clear hL10 hL11 hbx
  go_upto_region 9 with fail
  clear c4 c5 f4 f5 c0 f0
  generalize hwx:World.setCell _ _ _=wd
  have hE10:Box1 wd g10 59 (#[.string (⟨#[97,99,109,101,47,120]⟩:ByteArray),.string (⟨#[98,111,98]⟩:ByteArray),.string (⟨#[100,101]⟩:ByteArray),.int .i64 0,.int .i64 20,.int .i64 21]:Array Value):=by
   rw[←hwx]
   exact (heap_setCell_other _ _ _ _ hgg).trans (heap_setCell_same _ _ _ _ _ _ (heap_setCell_same _ _ _ _ _ _ HL10.out))
  have hE11:Box1 wd g11 59 (#[.string (⟨#[98,111,108,116,47,120]⟩:ByteArray),.string (⟨#[98,111,98]⟩:ByteArray),.string (⟨#[100,101]⟩:ByteArray),.int .i64 0,.int .i64 5,.int .i64 5]:Array Value):=by
   rw[←hwx]
   exact heap_setCell_same _ _ _ _ _ _ ((heap_setCell_other _ _ _ _ (Ne.symm hgg)).trans ((heap_setCell_other _ _ _ _ (Ne.symm hgg)).trans HL11.out))
  have hbx:Below w6.heap.size w6 wd:=by
   rw[←hwx]
   exact ((HBX.out.setCell (p:=⟨g10,4,none⟩) hl10 _).setCell (p:=⟨g10,5,none⟩) hl10 _).setCell (p:=⟨g11,0,none⟩) hl11 _
  replace hEa:=hEa.keep hbx
  (replace hK:=hK.keep hbx;replace hA:=hA.keep hbx;replace hB:=hB.keep hbx;replace hT:=hT.keep hbx;replace hr1:=hr1.keep hbx;replace hN:=hN.keep hbx;replace hr2:=hr2.keep hbx;replace hG:=hG.keep hbx;replace hW:=bstep hW hbx)
  clear hwx hbx HL10 HL11 HBX HE6 hgg hl10 hl11 wc
  go_upto_region 10 with (first
   | (refine wpList_load_addr rfl 32 _ rfl ⟨gt,0,none⟩ (.agg y1.cells.toArray) rfl (tok_row hT HY1.out) ?_)
   | (refine wpList_store_row rfl 32 _ _ rfl wd.heap.size y1.cells.toArray rfl rfl _ (#[.int .i64 0,.int .i64 0,.string ⟨#[]⟩,.slice none 0 0,.int .u8 0,.int .u8 0,.int .u8 0,.int .u8 0,.int .u8 0,.int .u8 0,.int .u8 0,.int .u8 0,.int .u8 0,.int .u8 0,.int .u8 0,.int .u8 0,.int .u8 0,.int .u8 0,.int .u8 0,.int .u8 0]:Array Value) (heap_alloc_new wd _) (tok_store hr1).1 (tok_store hr1).2.1 (tok_store hr1).2.2 ?_))
  (try dsimp only[Act.put])
  generalize hwx:World.setRow _ _ _=we
  have hC0:Box1 we wd.heap.size 32 y1.cells.toArray:=by rw[←hwx];exact setRow_heap _ _ _ _ _ _ (heap_alloc_new wd _)
  have hbe:Below wd.heap.size wd we:=by rw[←hwx];exact below_setRow (below_alloc _ _) (Nat.le_refl _) _
  clear hwx
  obtain⟨y5,hy5⟩:∃ y5:TokM,y5=⟨cutS,y1.A,y1.c,y1.L⟩:=⟨_,rfl⟩
  have hr5:TokReads wd y5:=by
   have h1:=hr1.same;have h2:=hr1.conds;have h3:=hr1.cap
   rw[ht1]at h1 h2 h3
   rw[hy5]
   exact⟨h1,h2,sl2_ok,h3⟩
  have ht5:y5.t=cutS:=by rw[hy5]
  have hsp:splice y1.cells 4 (b8 sl2)=y5.cells:=by
   rw[hy5]
   unfold TokM.cells
   rw[ht1]
   exact splice_tok _ _ _ _ _ _ _ _ sl1_ok.len sl2_ok.len
  have hsl:=tok_seal hr2 (W:=we) (g:=gn) ⟨hN.keep hbe⟩
  rw[ht2]at hsl
  have HSP:=Lib.hid hsp;have HSL:=Lib.hid hsl
  have HCL:=Lib.hid (show y1.cells.length=20 from hr1.size)
  have HBS:=Lib.hid (show (Tryz.prog.info? 30).map (·.size)=some (b8 sl2).length by rw[b8_len,sl2_ok.len];exact infSeal)
  have HY5:=Lib.hid (show y5.cells.toArray.size=20 by rw[List.size_toArray];exact hr5.size)
  clear hsp hsl hy5
  go_upto_region 11 with (first
   | (refine wpList_load_addr rfl 30 _ rfl ⟨gn,4,none⟩ (.agg (b8 sl2).toArray) rfl HSL.out ?_)
   | (refine wpList_store_at rfl 30 _ _ rfl wd.heap.size 4 (b8 sl2) rfl rfl _ y1.cells hC0 HBS.out (by rw[b8_len,sl2_ok.len,HCL.out];omega) (b8_one sl2) ?_))
  (try dsimp only[Act.put])
  rw[HSP.out]
  generalize hwx:World.setRow _ _ _=wf
  have hC:Box1 wf wd.heap.size 32 y5.cells.toArray:=by rw[←hwx];exact setRow_heap _ _ _ _ _ _ hC0
  have hbx:Below wd.heap.size wd wf:=by rw[←hwx];exact below_setRow hbe (Nat.le_refl _) _
  (replace hK:=hK.keep hbx;replace hA:=hA.keep hbx;replace hB:=hB.keep hbx;replace hT:=hT.keep hbx;replace hr1:=hr1.keep hbx;replace hN:=hN.keep hbx;replace hr2:=hr2.keep hbx;replace hG:=hG.keep hbx;replace hEa:=hEa.keep hbx;replace hE10:=hE10.keep hbx;replace hE11:=hE11.keep hbx;replace hW:=bstep hW hbx)
  replace hr5:=hr5.keep hbx
  generalize hgc:wd.heap.size=gc at *
  clear hwx hbx hgc hbe hC0 HSP HSL HCL HBS we
  go_upto_region 12 with (first
   | (refine wpList_load_addr rfl 32 _ rfl ⟨gn,0,none⟩ (.agg y2.cells.toArray) rfl (tok_row hN HY2.out) ?_)
   | (go_at_call 19;refine (st_mean (HL.out _ hW) hr2 ht2).mono ?_;rintro e w7 ⟨hbx,m,rfl,hrm⟩;simp only[val_condA];(replace hK:=hK.keep hbx;replace hA:=hA.keep hbx;replace hB:=hB.keep hbx;replace hT:=hT.keep hbx;replace hr1:=hr1.keep hbx;replace hN:=hN.keep hbx;replace hr2:=hr2.keep hbx;replace hG:=hG.keep hbx;replace hEa:=hEa.keep hbx;replace hE10:=hE10.keep hbx;replace hE11:=hE11.keep hbx;replace hC:=hC.keep hbx;replace hr5:=hr5.keep hbx;replace hW:=bstep hW hbx);clear hbx)
   | (refine wpList_store_row rfl 27 _ _ rfl w7.heap.size (condA mS m) rfl rfl _ (#[.int .i64 0,.int .i64 0,.string ⟨#[]⟩,.slice none 0 0,.slice none 0 0,.slice none 0 0,.int .i64 0]:Array Value) (heap_alloc_new w7 _) infC7 rfl (condA_one _ _) ?_))
  (try dsimp only[Act.put])
  generalize hwx:World.setRow _ _ _=wg
  have hM:Box1 wg w7.heap.size 27 (condA mS m):=by rw[←hwx];exact setRow_heap _ _ _ _ _ _ (heap_alloc_new w7 _)
  have hbx:Below w7.heap.size w7 wg:=by rw[←hwx];exact below_setRow (below_alloc _ _) (Nat.le_refl _) _
  (replace hK:=hK.keep hbx;replace hA:=hA.keep hbx;replace hB:=hB.keep hbx;replace hT:=hT.keep hbx;replace hr1:=hr1.keep hbx;replace hN:=hN.keep hbx;replace hr2:=hr2.keep hbx;replace hG:=hG.keep hbx;replace hEa:=hEa.keep hbx;replace hE10:=hE10.keep hbx;replace hE11:=hE11.keep hbx;replace hC:=hC.keep hbx;replace hr5:=hr5.keep hbx;replace hW:=bstep hW hbx)
  replace hrm:=hrm.keep hbx
  generalize hgm:w7.heap.size=gm at *
  clear hwx hbx hgm
  have c3:wg.cell? ⟨gn,3,none⟩=some (.slice y2.A 2 y2.c):=by
   have:=hN.cell (k:=3) (v:=.slice y2.A y2.t.conds.length y2.c) rfl
   rw[ht2]at this
   exact this
  go_upto_region 14 with (first
   | (go_big_want;refine wp_load_addr 32 _ rfl ⟨gn,0,none⟩ (.agg y2.cells.toArray) rfl (tok_row hN HY2.out) ?_;simp only[Act.put,List.setIfInBounds_toArray,List.set_cons_succ,List.set_cons_zero])
   | (go_at_call 14;refine (st_valid (HL.out _ hW) hr2 ht2).mono ?_;rintro e w8 ⟨rfl,hbx⟩;(replace hK:=hK.keep hbx;replace hA:=hA.keep hbx;replace hB:=hB.keep hbx;replace hT:=hT.keep hbx;replace hr1:=hr1.keep hbx;replace hN:=hN.keep hbx;replace hr2:=hr2.keep hbx;replace hG:=hG.keep hbx;replace hEa:=hEa.keep hbx;replace hE10:=hE10.keep hbx;replace hE11:=hE11.keep hbx;replace hC:=hC.keep hbx;replace hr5:=hr5.keep hbx;replace hM:=hM.keep hbx;replace hrm:=hrm.keep hbx;replace hW:=bstep hW hbx);have c3:=cell_keep hbx c3;clear hbx))
  clear c3
  obtain⟨S,hSd⟩:∃ S,S=SanS w gt gn gr ge g10 g11 gc gm y1 y2 y5 m:=⟨_,rfl⟩
  have hS:S w8:=by rw[hSd];exact⟨hT,hN,hG,hEa,hE10,hE11,hC,hM,hr1,hr2,hr5,hrm,hW⟩
  have hsk:∀ W W',S W→Below W.heap.size W W'→S W':=by rw[hSd];exact fun _ _ h hb=>h.keep hb
  have ldT:∀ W,S W→(loadVar 32 ⟨gt,0,none⟩).run Tryz.prog W=.ok (.agg y1.cells.toArray) W:=by rw[hSd];exact fun W h=>tok_row h.t HY1.out
  have ldN:∀ W,S W→(loadVar 32 ⟨gn,0,none⟩).run Tryz.prog W=.ok (.agg y2.cells.toArray) W:=by rw[hSd];exact fun W h=>tok_row h.n HY2.out
  have ldC:∀ W,S W→(loadVar 32 ⟨gc,0,none⟩).run Tryz.prog W=.ok (.agg y5.cells.toArray) W:=by rw[hSd];exact fun W h=>tok_row h.c HY5.out
  have ldE:∀ W,S W→(loadVar 59 ⟨ge,0,none⟩).run Tryz.prog W=.ok (.agg (#[.string (⟨#[97,99,109,101,47,120]⟩:ByteArray),.string (⟨#[98,111,98]⟩:ByteArray),.string (⟨#[100,101]⟩:ByteArray),.int .i64 0,.int .i64 5,.int .i64 5]:Array Value)) W:=by rw[hSd];exact fun W h=>ask_row h.e rfl
  have ldL:∀ W,S W→(loadVar 59 ⟨g10,0,none⟩).run Tryz.prog W=.ok (.agg (#[.string (⟨#[97,99,109,101,47,120]⟩:ByteArray),.string (⟨#[98,111,98]⟩:ByteArray),.string (⟨#[100,101]⟩:ByteArray),.int .i64 0,.int .i64 20,.int .i64 21]:Array Value)) W:=by rw[hSd];exact fun W h=>ask_row h.l rfl
  have ldO:∀ W,S W→(loadVar 59 ⟨g11,0,none⟩).run Tryz.prog W=.ok (.agg (#[.string (⟨#[98,111,108,116,47,120]⟩:ByteArray),.string (⟨#[98,111,98]⟩:ByteArray),.string (⟨#[100,101]⟩:ByteArray),.int .i64 0,.int .i64 5,.int .i64 5]:Array Value)) W:=by rw[hSd];exact fun W h=>ask_row h.o rfl
  have ldM:∀ W,S W→(loadVar 27 ⟨gm,0,none⟩).run Tryz.prog W=.ok (.agg (condA mS m)) W:=by rw[hSd];exact fun W h=>cond_row h.m rfl
  have k1:∀ W,S W→Calls Tryz.prog 29 #[.slice (some ⟨gr,0,none⟩) 1 1,.agg y1.cells.toArray,.agg (#[.string (⟨#[97,99,109,101,47,120]⟩:ByteArray),.string (⟨#[98,111,98]⟩:ByteArray),.string (⟨#[100,101]⟩:ByteArray),.int .i64 0,.int .i64 5,.int .i64 5]:Array Value)] W (Ret W (.int .i64 0)):=by rw[hSd];exact fun W h=>st_check1 (HL.out _ h.b) h.r1 ht1 h.g earlyS fit1 chk1
  have k2:∀ W,S W→Calls Tryz.prog 29 #[.slice (some ⟨gr,0,none⟩) 1 1,.agg y2.cells.toArray,.agg (#[.string (⟨#[97,99,109,101,47,120]⟩:ByteArray),.string (⟨#[98,111,98]⟩:ByteArray),.string (⟨#[100,101]⟩:ByteArray),.int .i64 0,.int .i64 5,.int .i64 5]:Array Value)] W (Ret W (.int .i64 250)):=by rw[hSd];exact fun W h=>st_check2 (HL.out _ h.b) h.r2 ht2 h.g earlyS fit1 chk2
  have k3:∀ W,S W→Calls Tryz.prog 29 #[.slice (some ⟨gr,0,none⟩) 1 1,.agg y2.cells.toArray,.agg (#[.string (⟨#[97,99,109,101,47,120]⟩:ByteArray),.string (⟨#[98,111,98]⟩:ByteArray),.string (⟨#[100,101]⟩:ByteArray),.int .i64 0,.int .i64 20,.int .i64 21]:Array Value)] W (Ret W (.int .i64 0)):=by rw[hSd];exact fun W h=>st_check2 (HL.out _ h.b) h.r2 ht2 h.g laterS fit2 chk3
  have k4:∀ W,S W→Calls Tryz.prog 29 #[.slice (some ⟨gr,0,none⟩) 1 1,.agg y5.cells.toArray,.agg (#[.string (⟨#[97,99,109,101,47,120]⟩:ByteArray),.string (⟨#[98,111,98]⟩:ByteArray),.string (⟨#[100,101]⟩:ByteArray),.int .i64 0,.int .i64 20,.int .i64 21]:Array Value)] W (Ret W (.int .i64 8)):=by rw[hSd];exact fun W h=>st_check3 (HL.out _ h.b) h.r5 ht5 h.g laterS fit2 chk4
  have k5:∀ W,S W→Calls Tryz.prog 29 #[.slice (some ⟨gr,0,none⟩) 1 1,.agg y1.cells.toArray,.agg (#[.string (⟨#[98,111,108,116,47,120]⟩:ByteArray),.string (⟨#[98,111,98]⟩:ByteArray),.string (⟨#[100,101]⟩:ByteArray),.int .i64 0,.int .i64 5,.int .i64 5]:Array Value)] W (Ret W (.int .i64 250)):=by rw[hSd];exact fun W h=>st_check1 (HL.out _ h.b) h.r1 ht1 h.g otherS fit3 chk5
  have ktx:∀ W,S W→Calls Tryz.prog 35 #[.agg y2.cells.toArray] W (Ret W (.tuple #[.string (textT nS),.int .i64 0])):=by rw[hSd];exact fun W h=>st_text25 (HL.out _ h.b) h.r2 ht2
  have kpa:∀ W,S W→Calls Tryz.prog 37 #[.string (textT nS)] W (TokPost nS 0 W):=by rw[hSd];exact fun W h=>st_parse (HL.out _ h.b)
  have ksm:∀ W,S W→Calls Tryz.prog 21 #[.agg (condA mS m),.agg (#[.int .i64 10,.int .i64 50,.string (⟨#[97,99,109,101,47,42,42]⟩:ByteArray),.slice none 0 0,.slice none 0 0,.slice none 0 0,.int .i64 0]:Array Value)] W (Ret W (.bool true)):=by rw[hSd];exact fun W h=>st_same21 m W h.rm
  have ks5:∀ (y3:TokM) (W:World),S W→TokReads W y3→y3.t=nS→Calls Tryz.prog 16 #[.agg y3.cells.toArray,.agg y2.cells.toArray] W (Ret W (.bool true)):=by rw[hSd];exact fun y3 W h hr3 ht3=>st_same25 hr3 h.r2 ht3 ht2
  have ki1:∀ W,S W→Calls Tryz.prog 22 #[.agg y1.cells.toArray] W (Ret W (.agg (b8 (identT nS)).toArray)):=by rw[hSd];exact fun W h=>st_ident1 (HL.out _ h.b) h.r1 ht1
  have ki2:∀ W,S W→Calls Tryz.prog 22 #[.agg y2.cells.toArray] W (Ret W (.agg (b8 (identT nS)).toArray)):=by rw[hSd];exact fun W h=>st_ident2 (HL.out _ h.b) h.r2 ht2
  have kus:∀ W,S W→Calls Tryz.prog 24 #[.agg y2.cells.toArray] W (Ret W (.int .i64 0)):=by rw[hSd];exact fun W h=>st_uses (HL.out _ h.b) h.r2 ht2
  have hbW:∀ W,S W→Below w.heap.size w W:=by rw[hSd];exact fun W h=>h.b
  have hdg:=fun W=>dg_eqIn (identT nS) (identT nS) (ofD_ok _ _) (ofD_ok _ _) W
  rw[show decide (identT nS=identT nS)=true from decide_eq_true rfl]at hdg
  generalize (b8 (identT nS)).toArray=DG at *
  generalize textT nS=TX at *
  generalize y1.cells.toArray=Y1 at *
  generalize y2.cells.toArray=Y2 at *
  generalize y5.cells.toArray=Y5 at *
  generalize condA mS m=MX at *
  generalize (#[.string (⟨#[97,99,109,101,47,120]⟩:ByteArray),.string (⟨#[98,111,98]⟩:ByteArray),.string (⟨#[100,101]⟩:ByteArray),.int .i64 0,.int .i64 5,.int .i64 5]:Array Value)=XE at *
  generalize (#[.string (⟨#[97,99,109,101,47,120]⟩:ByteArray),.string (⟨#[98,111,98]⟩:ByteArray),.string (⟨#[100,101]⟩:ByteArray),.int .i64 0,.int .i64 20,.int .i64 21]:Array Value)=XL at *
  generalize (#[.string (⟨#[98,111,108,116,47,120]⟩:ByteArray),.string (⟨#[98,111,98]⟩:ByteArray),.string (⟨#[100,101]⟩:ByteArray),.int .i64 0,.int .i64 5,.int .i64 5]:Array Value)=XO at *
  have LDT:=Lib.hid ldT;have LDN:=Lib.hid ldN;have LDC:=Lib.hid ldC;have LDE:=Lib.hid ldE;have LDL:=Lib.hid ldL;have LDO:=Lib.hid ldO;have LDM:=Lib.hid ldM
  have C1:=Lib.hid k1;have C2:=Lib.hid k2;have C3:=Lib.hid k3;have C4:=Lib.hid k4;have C5:=Lib.hid k5;have KTX:=Lib.hid ktx;have KPA:=Lib.hid kpa;have KSM:=Lib.hid ksm;have KS5:=Lib.hid ks5;have KI1:=Lib.hid ki1;have KI2:=Lib.hid ki2;have KUS:=Lib.hid kus;have HBW:=Lib.hid hbW;have HDG:=Lib.hid hdg;have HSK:=Lib.hid hsk
  clear hSd hsk ldT ldN ldC ldE ldL ldO ldM k1 k2 k3 k4 k5 ktx kpa ksm ks5 ki1 ki2 kus hbW hdg hK hA hB hT hN hG hEa hE10 hE11 hC hM hr1 hr2 hr5 hrm hW HY1 HY2 HY5 HL ht1 ht2 ht5
  go_upto_region 15 with (first
   | (first | (refine wpList_load_addr rfl 32 _ rfl ⟨gt,0,none⟩ (.agg Y1) rfl (LDT.out _ hS) ?_) | (go_big_want;refine wp_load_addr 32 _ rfl ⟨gt,0,none⟩ (.agg Y1) rfl (LDT.out _ hS) ?_;simp only[Act.put,List.setIfInBounds_toArray,List.set_cons_succ,List.set_cons_zero]))
   | (first | (refine wpList_load_addr rfl 32 _ rfl ⟨gn,0,none⟩ (.agg Y2) rfl (LDN.out _ hS) ?_) | (go_big_want;refine wp_load_addr 32 _ rfl ⟨gn,0,none⟩ (.agg Y2) rfl (LDN.out _ hS) ?_;simp only[Act.put,List.setIfInBounds_toArray,List.set_cons_succ,List.set_cons_zero]))
   | (go_big_want;refine wp_load_addr 32 _ rfl ⟨gc,0,none⟩ (.agg Y5) rfl (LDC.out _ hS) ?_;simp only[Act.put,List.setIfInBounds_toArray,List.set_cons_succ,List.set_cons_zero])
   | (first | (refine wpList_load_addr rfl 59 _ rfl ⟨ge,0,none⟩ (.agg XE) rfl (LDE.out _ hS) ?_) | (go_big_want;refine wp_load_addr 59 _ rfl ⟨ge,0,none⟩ (.agg XE) rfl (LDE.out _ hS) ?_;simp only[Act.put,List.setIfInBounds_toArray,List.set_cons_succ,List.set_cons_zero]))
   | (go_big_want;refine wp_load_addr 59 _ rfl ⟨g10,0,none⟩ (.agg XL) rfl (LDL.out _ hS) ?_;simp only[Act.put,List.setIfInBounds_toArray,List.set_cons_succ,List.set_cons_zero])
   | (go_big_want;refine wp_load_addr 59 _ rfl ⟨g11,0,none⟩ (.agg XO) rfl (LDO.out _ hS) ?_;simp only[Act.put,List.setIfInBounds_toArray,List.set_cons_succ,List.set_cons_zero])
   | (go_at_call 29;first
     | (refine (C1.out _ hS).mono ?_;clear C1;(rintro e w8 ⟨rfl,hbx⟩;replace hS:=HSK.out _ _ hS hbx;clear hbx))
     | (refine (C2.out _ hS).mono ?_;clear C2;(rintro e w8 ⟨rfl,hbx⟩;replace hS:=HSK.out _ _ hS hbx;clear hbx))
     | (refine (C3.out _ hS).mono ?_;clear C3;(rintro e w8 ⟨rfl,hbx⟩;replace hS:=HSK.out _ _ hS hbx;clear hbx))
     | (refine (C4.out _ hS).mono ?_;clear C4;(rintro e w8 ⟨rfl,hbx⟩;replace hS:=HSK.out _ _ hS hbx;clear hbx))
     | (refine (C5.out _ hS).mono ?_;clear C5;(rintro e w8 ⟨rfl,hbx⟩;replace hS:=HSK.out _ _ hS hbx;clear hbx))))
  clear LDC LDE LDL LDO
  go_upto_region 16 with (first
   | (first | (refine wpList_load_addr rfl 32 _ rfl ⟨gn,0,none⟩ (.agg Y2) rfl (LDN.out _ hS) ?_) | (go_big_want;refine wp_load_addr 32 _ rfl ⟨gn,0,none⟩ (.agg Y2) rfl (LDN.out _ hS) ?_;simp only[Act.put,List.setIfInBounds_toArray,List.set_cons_succ,List.set_cons_zero]))
   | (go_at_call 35;refine (KTX.out _ hS).mono ?_;(rintro e w8 ⟨rfl,hbx⟩;replace hS:=HSK.out _ _ hS hbx;clear hbx)))
  clear KTX
  go_upto_region 17 with (first
   | (go_at_call 37;refine (KPA.out _ hS).mono ?_;rintro e w9 ⟨hbx,y3,rfl,hr3,ht3⟩;simp only[cells_val];replace hS:=HSK.out _ _ hS hbx;clear hbx)
   | (refine wpList_store_row rfl 32 _ _ rfl w9.heap.size y3.cells.toArray rfl rfl _ (#[.int .i64 0,.int .i64 0,.string ⟨#[]⟩,.slice none 0 0,.int .u8 0,.int .u8 0,.int .u8 0,.int .u8 0,.int .u8 0,.int .u8 0,.int .u8 0,.int .u8 0,.int .u8 0,.int .u8 0,.int .u8 0,.int .u8 0,.int .u8 0,.int .u8 0,.int .u8 0,.int .u8 0]:Array Value) (heap_alloc_new w9 _) (tok_store hr3).1 (tok_store hr3).2.1 (tok_store hr3).2.2 ?_))
  (try dsimp only[Act.put])
  generalize hwx:World.setRow _ _ _=wh
  have hU:Box1 wh w9.heap.size 32 y3.cells.toArray:=by rw[←hwx];exact setRow_heap _ _ _ _ _ _ (heap_alloc_new w9 _)
  have hbx:Below w9.heap.size w9 wh:=by rw[←hwx];exact below_setRow (below_alloc _ _) (Nat.le_refl _) _
  replace hS:=HSK.out _ _ hS hbx
  replace hr3:=hr3.keep hbx
  have HY3:=Lib.hid (show y3.cells.toArray.size=20 by rw[List.size_toArray];exact hr3.size)
  generalize hgu:w9.heap.size=gu at *
  clear hwx hbx hgu
  obtain⟨S2,hSd⟩:∃ S2:World→Prop,S2=fun W=>S W∧Box1 W gu 32 y3.cells.toArray∧TokReads W y3:=⟨_,rfl⟩
  have hS2:S2 wh:=by rw[hSd];exact⟨hS,hU,hr3⟩
  have hsk2:∀ W W',S2 W→Below W.heap.size W W'→S2 W':=by rw[hSd];exact fun _ _ h hb=>⟨HSK.out _ _ h.1 hb,h.2.1.keep hb,h.2.2.keep hb⟩
  have hs1:∀ W,S2 W→S W:=by rw[hSd];exact fun _ h=>h.1
  have ldU:∀ W,S2 W→(loadVar 32 ⟨gu,0,none⟩).run Tryz.prog W=.ok (.agg y3.cells.toArray) W:=by rw[hSd];exact fun W h=>tok_row h.2.1 HY3.out
  have ks5:∀ W,S2 W→Calls Tryz.prog 16 #[.agg y3.cells.toArray,.agg Y2] W (Ret W (.bool true)):=by rw[hSd];exact fun W h=>KS5.out y3 W h.1 h.2.2 ht3
  generalize y3.cells.toArray=Y3 at *
  have LDU:=Lib.hid ldU;have KS6:=Lib.hid ks5;have HS1:=Lib.hid hs1;have HK2:=Lib.hid hsk2;have HS2:=Lib.hid hS2
  clear hSd hsk2 hs1 ldU ks5 hS2 hS hU hr3 HY3 KS5 ht3 HSK KPA
  have ki:∀ (Y:Array Value),(Y=Y1∨Y=Y2)→∀ W,S W→Calls Tryz.prog 22 #[.agg Y] W (Ret W (.agg DG)):=by
   intro Y h
   rcases h with h | h
   ·rw[h];exact KI1.out
   ·rw[h];exact KI2.out
  have KI:=Lib.hid ki
  clear ki KI1 KI2
  refine wp_det 32 (by kernel_rfl) (by kernel_rfl) (by kernel_rfl) (fun i=>[.bool true,.bool true,.agg MX,.agg (#[.int .i64 10,.int .i64 50,.string (⟨#[97,99,109,101,47,42,42]⟩:ByteArray),.slice none 0 0,.slice none 0 0,.slice none 0 0,.int .i64 0]:Array Value),.bool true,.bool true,.bool true,.int .i64 0,.bool true,.bool true,.bool true,.int .i64 0,.bool true,.bool true,.bool true,.agg Y3,.agg Y2,.bool true,.bool true,.bool true,.agg Y1,.agg DG,.agg Y2,.agg DG,.bool true,.bool true,.bool true,.agg Y2,.int .i64 0,.bool true,.bool true,.bool true].getD i undef) S2 (HK2.out _ _ HS2.out (Below.drew (Below.refl _ _))) (fun _ _ h hb=>HK2.out _ _ h hb) ?_ ?_
  ·simp only[putL,putF,Act.put]
   refine⟨fun W hS=>?_,fun W hS=>?_,fun W hS=>?_,fun W hS=>?_,fun W hS=>?_,fun W hS=>?_,fun W hS=>?_,fun W hS=>?_,fun W hS=>?_,fun W hS=>?_,fun W hS=>?_,fun W hS=>?_,fun W hS=>?_,fun W hS=>?_,fun W hS=>?_,fun W hS=>?_,fun W hS=>?_,fun W hS=>?_,fun W hS=>?_,fun W hS=>?_,fun W hS=>?_,fun W hS=>?_,fun W hS=>?_,fun W hS=>?_,fun W hS=>?_,fun W hS=>?_,fun W hS=>?_,fun W hS=>?_,fun W hS=>?_,fun W hS=>?_,fun W hS=>?_,fun W hS=>?_,trivial⟩
   all_goals
    have hs:=HS1.out _ hS
    have e2:=HDG.out W
    go_wp2_with (first
     | (refine wpList_load_wanted (by kernel_rfl) 27 _ rfl ⟨gm,0,none⟩ (.agg MX) rfl (LDM.out _ hs) ?_)
     | (refine wpList_load_wanted (by kernel_rfl) 32 _ rfl ⟨gu,0,none⟩ (.agg Y3) rfl (LDU.out _ hS) ?_)
     | (refine wpList_load_wanted (by kernel_rfl) 32 _ rfl ⟨gn,0,none⟩ (.agg Y2) rfl (LDN.out _ hs) ?_)
     | (refine wpList_load_wanted (by kernel_rfl) 32 _ rfl ⟨gt,0,none⟩ (.agg Y1) rfl (LDT.out _ hs) ?_)
     | (go_at_call 21;refine (KSM.out _ hs).mono ?_;rintro e w8 ⟨rfl,hb8⟩)
     | (go_at_call 16;refine (KS6.out _ hS).mono ?_;rintro e w8 ⟨rfl,hb8⟩)
     | (go_at_call 24;refine (KUS.out _ hs).mono ?_;rintro e w8 ⟨rfl,hb8⟩)
     | (go_at_call 22;refine (KI.out _ (by first | exact .inl rfl | exact .inr rfl) _ hs).mono ?_;rintro e w8 ⟨rfl,hb8⟩))
    exact⟨rfl,rfl,by first | exact Below.refl _ _ | assumption⟩
  intro wz hSz
  simp only[putL,putF,Act.put]
  have hbz:=HBW.out _ (HS1.out _ hSz)
  go_wp2
  go_ret
  exact⟨rfl,hbz⟩
end Go.Proofs.YtlkbkclnbppigaaGreatDoor
namespace Go.Proofs.YtlkbkclnbppigaaGreatDoor
open Go.ChangeShapes Go.WideShapes Go.ChangeAt Go.RowKit Go.ChangeMaps
theorem errStar : "*" ++ "errors.errorString" = "*errors.errorString" := by decide
theorem errRow (u:TypeId) (h:Tryz.prog.typeName? 3 u=some "*errors.errorString"):u=339 :=
 typeName_ptr_named (nm := "errors.errorString") (by rw[errStar];kernel_rfl) (by kernel_rfl) (by decide) u (by rw[errStar];exact h)
def errCell (n:Nat):Obj→Obj
 | .cells _ t frozen=>.cells #[.iface 339 (.pointer (some ⟨n,0,none⟩))] t frozen
 | o=>o
noncomputable def laidWorldR (os:Os):World :=
 { laidWorld os with heap:=((((((laidWorld os).heap.modify 0 (laidCells .u32 Sha.ks)).modify 1 (laidCells .u32 Sha.ks)).modify 5 (errCell (laidWorld os).heap.size)).modify 4 (errCell ((laidWorld os).heap.size+1))).push (.cells #[.string (⟨#[118,97,108,117,101,32,111,117,116,32,111,102,32,114,97,110,103,101]⟩:ByteArray)] 341)).push (.cells #[.string (⟨#[105,110,118,97,108,105,100,32,115,121,110,116,97,120]⟩:ByteArray)] 341) }
def ksI:List Int:=Sha.ks.map fun n:Nat=>(n:Int)
theorem ks_same:(Rows.laid_weirgate_hash_constants:DataW Unit)=Lib.tabData .u32 ksI:=by kernel_rfl
theorem ks_of_tab {W:World} (h:Lib.TabIs Tryz.prog W "weirgate/hash.constants" .u32 ksI):Ks W:=by
 unfold Lib.TabIs World.var? at h
 rw[show Tryz.prog.globalNamed "weirgate/hash.constants" = some 0 by kernel_rfl]at h
 rw[Option.bind_some]at h
 split at h
 ·rename_i cs t fr hc
  injection h with h
  refine⟨t,fr,hc.trans ?_⟩
  rw[h]
  unfold ksI w32
  rw[List.map_map]
  rfl
 ·cases h
theorem rest_of {W:World} {rest:List (String × DataW Unit)} (h5:laidMet Tryz.prog (("strconv.ErrRange", Rows.laid_strconv_ErrRange) :: ("strconv.ErrSyntax", Rows.laid_strconv_ErrSyntax) :: ("weirgate/hash.constants", Rows.laid_weirgate_hash_constants) :: rest) W):Errs W∧5<W.heap.size∧Ks W:=by
 have h6:=laidMet.tail h5
 have h7:=laidMet.tail h6
 obtain⟨a1,s1,v1,_,_,_⟩:=laid_sentinel (g:=5) (ti:=177) (tp:=339) (te:=341) (ts:=9) h5 (by kernel_rfl) (by kernel_rfl) Tryz.underlying177 errRow Tryz.underlying339 Tryz.underlying341 rfl rfl Tryz.underlying9 (by kernel_rfl) (by kernel_rfl)
 obtain⟨a2,s2,v2,_,_,_⟩:=laid_sentinel (g:=4) (ti:=177) (tp:=339) (te:=341) (ts:=9) h6 (by kernel_rfl) (by kernel_rfl) Tryz.underlying177 errRow Tryz.underlying339 Tryz.underlying341 rfl rfl Tryz.underlying9 (by kernel_rfl) (by kernel_rfl)
 have c1:=World.var?_cell (g:=5) (by kernel_rfl) v1 0
 have c2:=World.var?_cell (g:=4) (by kernel_rfl) v2 0
 rw[ks_same]at h7
 have hk:=ks_of_tab (Lib.tabIs_of_head (g:=0) (by kernel_rfl) (by kernel_rfl) Tryz.underlying265 Tryz.underlying147 (by kernel_rfl) (by kernel_rfl) h7)
 refine⟨⟨⟨_,c2,.inr ⟨_,_,rfl⟩⟩,_,c1,.inr ⟨_,_,rfl⟩⟩,?_,hk⟩
 have:=cell_lt c1
 have:=cell_lt c2
 omega
theorem lawe_of {W:World} {d1 d2 d4:DataW Unit} {n1 n2 n4:String} {rest:List (String × DataW Unit)} (hS:W.ShapedOpen Tryz.prog) (h:laidMet Tryz.prog ((n1,d1) :: (n2,d2) :: ("internal/strconv.uint64pow10", Rows.laid_internal_strconv_uint64pow10) :: (n4,d4) :: ("strconv.ErrRange", Rows.laid_strconv_ErrRange) :: ("strconv.ErrSyntax", Rows.laid_strconv_ErrSyntax) :: ("weirgate/hash.constants", Rows.laid_weirgate_hash_constants) :: rest) W):LawE W:=by
 have h5:=rest_of (laidMet.tail (laidMet.tail (laidMet.tail (laidMet.tail h))))
 exact⟨env_of hS,tab_of h,h5.2.2,h5.1,h5.2.1⟩
end Go.Proofs.YtlkbkclnbppigaaGreatDoor
