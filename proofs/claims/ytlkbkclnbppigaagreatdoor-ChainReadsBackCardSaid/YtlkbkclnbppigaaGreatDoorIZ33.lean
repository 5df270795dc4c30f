/- The seal after a seal: chain.next, the specification's next. -/
import Derived.Test.YtlkbkclnbppigaaGreatDoorIZ32
set_option maxHeartbeats 16000000
namespace Go.Proofs.YtlkbkclnbppigaaGreatDoor
open Go.RowKit Go.Sort
set_option linter.unusedVariables false
set_option linter.unusedSimpArgs false
set_option maxRecDepth 100000
def Row2 (a b:ByteArray):Value→World→Prop:=fun v W=>∃ g,v=.slice (some ⟨g,0,none⟩) 2 2∧Reads W 1 (some ⟨g,0,none⟩) 2 ([a,b].map .string)
theorem keeps_row2 (a b:ByteArray):Keeps (Row2 a b):=fun _ _ _ ⟨g,e,hr⟩ hb=>⟨g,e,hr.keep hb⟩
theorem reads2 (w:World) (a b:ByteArray) (g:Nat) (hg:g=w.heap.size):Reads (w.alloc (.cells #[.string a,.string b] 9)) 1 (some ⟨g,0,none⟩) 2 ([a,b].map .string):=by
 subst hg
 refine⟨rfl,fun _=>⟨_,_,rfl,fun j u hu=>?_⟩⟩
 rw[Nat.zero_add,cell_of_row _ _ _ _ _ _ (World.alloc_heap_new w (.cells #[.string a,.string b] 9))]
 simpa using hu
structure NxS (w:World) (X Y Z:Array Value) (W:World):Prop where
 x:Box1 W w.heap.size 30 X
 y:Box1 W (w.heap.size+1) 27 Y
 z:Box1 W (w.heap.size+2) 30 Z
 b:Below w.heap.size w W
 s:w.heap.size+2<W.heap.size
theorem NxS.keep {w W W':World} {X Y Z:Array Value} (h:NxS w X Y Z W) (hb:Below W.heap.size W W'):NxS w X Y Z W':=⟨h.x.keep hb,h.y.keep hb,h.z.keep hb,bstep h.b hb,Nat.lt_of_lt_of_le h.s hb.size⟩
theorem alloc3_box (w:World) (A B C:Obj):(((w.alloc A).alloc B).alloc C).heap[w.heap.size]? = some A∧(((w.alloc A).alloc B).alloc C).heap[w.heap.size+1]? = some B∧(((w.alloc A).alloc B).alloc C).heap[w.heap.size+2]? = some C:=by
 refine⟨?_,?_,?_⟩
 ·exact (heap_alloc_old ((w.alloc A).alloc B) C (by simp;omega)).trans (heap_alloc2_old w A B)
 ·exact (heap_alloc_old ((w.alloc A).alloc B) C (by simp)).trans (heap_alloc2_new w A B)
 ·have:=heap_alloc_new ((w.alloc A).alloc B) C
  simpa using this
theorem cond_row {w:World} {g:Nat} {Y:Array Value} {t:TypeId} (hg:w.heap[g]? = some (.cells Y t (0,0))) (hs:Y.size=7):(loadVar 27 ⟨g,0,none⟩).run Tryz.prog w=.ok (.agg Y) w :=
 run_loadVar_row (P:=Tryz.prog) w g _ 27 Y _ _ hg Tryz.underlying27 rfl (by rw[hs];kernel_rfl)
theorem seal_reads {w:World} {g:Nat} {t:TypeId} {l:List Nat} (hl:l.length=16) (hg:w.heap[g]? = some (.cells (b8 l).toArray t (0,0))):Reads w 1 (some ⟨g,0,none⟩) 16 (b8 l):=by
 refine⟨by rw[b8_len,hl],fun _=>⟨_,_,rfl,fun j u hu=>?_⟩⟩
 rw[Nat.zero_add,cell_of_row _ _ _ _ _ _ hg]
 simpa using hu
theorem tNext_any (l:List Nat) (hl:SealOk l) (c:CondV) (m:CondMem) (w:World) (hR:CondReads w c m) (hc:CoOk c) (hE:Env w) (hTb:Tab w) (hK:Ks w):Calls Tryz.prog 52 #[.agg (b8 l).toArray,CondMem.val c m] w (Ret w (.agg (b8 (nextS l c)).toArray)):=by
 have hO:=fun (g:Nat) (W:World) (hr:Reads W 1 (some ⟨g,0,none⟩) 2 ([toN l,textC c].map .string)) (hb:Below w.heap.size w W)=>of_any 45 (by decide) (some ⟨g,0,none⟩) 2 2 [toN l,textC c] W hr (by omega) (by
  intro s h
  simp only[List.mem_cons,List.not_mem_nil,or_false]at h
  rcases h with rfl | rfl
  ·rw[toN_size,hl.len];omega
  ·exact hc.tx) (hK.keep hb)
 have hD:=fun (W:World) (h:W.heap[w.heap.size]? = some (.cells (b8 l).toArray 30 (0,0)))=>run_text W (some ⟨w.heap.size,0,none⟩) 16 16 l hl.len hl.lt (by omega) (seal_reads hl.len h)
 have hT:=fun (W:World) (hb:Below w.heap.size w W)=>tText_any c m W (hR.keep hb) hc (hE.keep hb) (hTb.keep hb)
 have hDS:(b8 (Sha.ofD 45 ([toN l,textC c].map nb))).toArray.size=16:=by rw[List.size_toArray,b8_len];exact ofD_len _ _
 have hDO:(b8 (Sha.ofD 45 ([toN l,textC c].map nb))).toArray.all (·.oneCell')=true:=b8_all _
 have hnx:Sha.ofD 45 ([toN l,textC c].map nb)=nextS l c:=by
  show Sha.ofD 45 [nb (toN l),nb (textC c)]=_
  rw[nb_toN hl.lt];rfl
 rw[hnx]at hDS hDO hO
 generalize (b8 (nextS l c)).toArray=DG at *
 have hXS:(b8 l).toArray.size=16:=by rw[List.size_toArray,b8_len];exact hl.len
 generalize (b8 l).toArray=X at *
 generalize toN l=sx at *
 generalize textC c=tx at *
 obtain⟨Y,hY,hYS⟩:∃ Y:Array Value,CondMem.val c m=.agg Y∧Y.size=7:=⟨_,rfl,rfl⟩
 rw[hY]at hT ⊢
 have HO:=Lib.hid hO;have HD:=Lib.hid hD;have HT:=Lib.hid hT;have HDS:=Lib.hid hDS;have HDO:=Lib.hid hDO;have HXS:=Lib.hid hXS;have HYS:=Lib.hid hYS
 have HDI:=Lib.hid (show (Tryz.prog.info? 30).map (·.size)=some DG.size by rw[hDS];exact infSeal)
 clear hO hD hT hDS hDO hXS hY hYS hnx hR hc hK hl hE hTb
 go_enter Tryz.func52,Tryz.ntmps52
 go_upto_region 1 with fail
 generalize hw0:World.alloc _ _=w0
 obtain⟨ZS,hZS⟩:∃ ZS:Array Value,ZS=(b8 (List.replicate 16 0)).toArray:=⟨_,rfl⟩
 have hS0:NxS w X Y ZS w0:=by
  rw[←hw0,hZS]
  exact⟨(alloc3_box w _ _ _).1,(alloc3_box w _ _ _).2.1,(alloc3_box w _ _ _).2.2,belB,by simp⟩
 have HZS:=Lib.hid (show ZS.size=16 by rw[hZS];rfl)
 clear hw0 hZS
 have HS0:=Lib.hid hS0
 refine wp_detD 6 (by kernel_rfl) (by kernel_rfl) (by kernel_rfl) (DL [IsV (.slice (some ⟨w.heap.size,0,none⟩) 16 16),IsV (.string sx),IsV (.agg Y),IsV (.string tx),Row2 sx tx,IsV (.agg DG)]) (DL.keep _ (by simp only[KeepAll];repeat' (first | apply And.intro | exact keeps_is _ | exact keeps_row2 _ _ | exact trivial))) (NxS w X Y ZS) (HS0.out.keep (Below.drew (Below.refl _ _))) (fun _ _ h hb=>h.keep hb) ?_ ?_
 ·dsimp only[List.take_succ_cons,List.take_zero,DetD]
  refine⟨fun vals W hS hd=>?_,fun vals W hS hd=>?_,fun vals W hS hd=>?_,fun vals W hS hd=>?_,fun vals W hS hd=>?_,fun vals W hS hd=>?_,trivial⟩
  ·(try simp only[DepsL,DL,IsV,List.getD_cons_zero,List.getD_cons_succ,Region.binds,and_true,true_and]at hd)
   simp only[putL,putF,Act.put]
   (try simp only[hd])
   clear hd
   go_wp2
   exact⟨rfl,rfl,rfl,belB⟩
  ·(try simp only[DepsL,DL,IsV,List.getD_cons_zero,List.getD_cons_succ,Region.binds,and_true,true_and]at hd)
   simp only[putL,putF,Act.put]
   (try simp only[hd])
   clear hd
   have hcv:=HD.out W hS.x
   go_wp2
   exact⟨rfl,rfl,rfl,belB⟩
  ·(try simp only[DepsL,DL,IsV,List.getD_cons_zero,List.getD_cons_succ,Region.binds,and_true,true_and]at hd)
   simp only[putL,putF,Act.put]
   (try simp only[hd])
   clear hd
   have hld:=cond_row hS.y HYS.out
   go_wp2_with (refine wpList_load_addr rfl 27 _ rfl ⟨w.heap.size+1,0,none⟩ (.agg Y) rfl hld ?_)
   exact⟨rfl,rfl,rfl,belB⟩
  ·(try simp only[DepsL,DL,IsV,List.getD_cons_zero,List.getD_cons_succ,Region.binds,and_true,true_and]at hd)
   simp only[putL,putF,Act.put]
   (try simp only[hd])
   clear hd
   have hbW:=hS.b
   go_wp2_with (go_at_call 71;refine (HT.out _ hbW).mono ?_;rintro e w5 ⟨rfl,hb5⟩)
   exact⟨rfl,rfl,rfl,belB⟩
  ·(try simp only[DepsL,DL,IsV,List.getD_cons_zero,List.getD_cons_succ,Region.binds,and_true,true_and]at hd)
   simp only[putL,putF,Act.put]
   (try simp only[hd])
   clear hd
   go_wp2
   exact⟨rfl,⟨_,rfl,reads2 W sx tx _ rfl⟩,rfl,belB⟩
  ·(try simp only[DepsL,DL,IsV,List.getD_cons_zero,List.getD_cons_succ,Region.binds,and_true,true_and]at hd)
   obtain⟨⟨g,e2,hr5⟩,_⟩:=hd
   simp only[putL,putF,Act.put]
   (try simp only[e2])
   have hbW:=hS.b
   go_wp2_with (go_at_call 56;refine (HO.out _ _ hr5 hbW).mono ?_;rintro e w5 ⟨rfl,hb5⟩)
   exact⟨rfl,rfl,rfl,belB⟩
 ·intro vals w9 hS9 hD9
  have e5:vals 5=.agg DG:=hD9 5 (by omega)
  simp only[putL,putF,Act.put]
  simp only[e5]
  clear hD9 e5
  refine wpList_store_row rfl 30 _ _ rfl (w.heap.size+2) DG rfl rfl _ ZS hS9.z HDI.out (by rw[HZS.out,HDS.out]) HDO.out ?_
  go_wp2
  refine bodyPost_ret (v:=.agg DG) ?_ rfl ⟨rfl,?_⟩
  ·exact results_cell_row rfl _ _ (w.heap.size+2) _ _ (0,0) _ rfl (setRow_heap _ _ _ _ _ _ hS9.z) Tryz.underlying30 rfl HDI.out
  ·exact below_setRow hS9.b (by omega) _
def AlS (base:Nat) (ZS:Array Value):Value→World→Prop:=fun v W=>∃ g,v=.pointer (some ⟨g,0,none⟩)∧Box1 W g 30 ZS∧base≤g
theorem keeps_alS (base:Nat) (ZS:Array Value):Keeps (AlS base ZS):=fun _ _ _ ⟨g,e,hk,hg⟩ hb=>⟨g,e,hk.keep hb,hg⟩
def seqS (k:KeyV) (t:TokV) (i:Nat):List Nat:=(t.conds.tail.take (i-1)).foldl nextS (firstS k t)
theorem seq_step {k:KeyV} {t:TokV} {i:Nat} {c:CondV} (h0:1≤i) (h:t.conds[i]? = some c):seqS k t (i+1)=nextS (seqS k t i) c:=by
 obtain⟨j,rfl⟩:∃ j,i=j+1:=⟨i-1,by omega⟩
 have ht:t.conds.tail[j]? = some c:=by rw[List.getElem?_tail];exact h
 unfold seqS
 rw[Nat.add_sub_cancel,Nat.add_sub_cancel,List.take_add_one,ht,List.foldl_append]
 rfl
theorem seq_end (k:KeyV) (t:TokV):seqS k t t.conds.length=rightS k t:=by
 unfold seqS rightS
 rw[List.take_of_length_le (by simp)]
theorem seq_ok (k:KeyV) (t:TokV) (i:Nat):SealOk (seqS k t i):=by
 unfold seqS
 have:∀ (l:List CondV) (s:List Nat),SealOk s→SealOk (l.foldl nextS s):=by
  intro l
  induction l with
  | nil=>exact fun s h=>h
  | cons c l ih=>exact fun s _=>ih _ (ofD_ok _ _)
 exact this _ _ (ofD_ok _ _)
structure RtS (w:World) (K:Array Value) (x:TokM) (Z:Array Value) (W:World):Prop where
 k:Box1 W w.heap.size 23 K
 t:TBox W (w.heap.size+1) x
 z:Box1 W (w.heap.size+2) 30 Z
 b:Below w.heap.size w W
 s:w.heap.size+2<W.heap.size
theorem RtS.keep {w W W':World} {K Z:Array Value} {x:TokM} (h:RtS w K x Z W) (hb:Below W.heap.size W W'):RtS w K x Z W':=⟨h.k.keep hb,h.t.keep hb,h.z.keep hb,bstep h.b hb,Nat.lt_of_lt_of_le h.s hb.size⟩
theorem toks_cond {x:TokM} {w:World} (hR:TokReads w x) {i:Nat} {y:CoM} (h:x.L[i]? = some y):x.t.conds[i]? = some y.c:=by rw[←hR.same,List.getElem?_map,h];rfl
structure ItS (w:World) (kb tb:Nat) (K:Array Value) (x:TokM) (W:World):Prop where
 b:Below w.heap.size w W
 k:Box1 W kb 23 K
 t:TBox W tb x
theorem ItS.keep {w W W':World} {kb tb:Nat} {K:Array Value} {x:TokM} (h:ItS w kb tb K x W) (hb:Below W.heap.size W W'):ItS w kb tb K x W':=⟨bstep h.b hb,h.k.keep hb,h.t.keep hb⟩
theorem ItS.low {w W W':World} {kb tb B:Nat} {K:Array Value} {x:TokM} (h:ItS w kb tb K x W) (hb:Below B W W') (hw:w.heap.size≤B) (hk:kb<B) (ht:tb<B):ItS w kb tb K x W' :=
 ⟨h.b.trans (hb.mono hw),(hb.block _ hk).trans h.k,⟨(hb.block _ ht).trans h.t.box⟩⟩
theorem box_lt {W:World} {g:Nat} {t:TypeId} {X:Array Value} (h:Box1 W g t X):g<W.heap.size:=by
 rcases Nat.lt_or_ge g W.heap.size with h' | h'
 ·exact h'
 ·unfold Box1 at h;rw[Array.getElem?_eq_none h']at h;cases h
theorem ItS.round {w W W':World} {kb tb ob n0 B:Nat} {K:Array Value} {x:TokM} (h:ItS w kb tb K x W) (hb:KeepOb ob n0 B W W') (hw:w.heap.size≤ob) (hk:ob<kb∧kb<n0) (ht:ob<tb∧tb<n0):ItS w kb tb K x W' :=
 ⟨h.b.trans (hb.low.mono hw),(hb.same _ hk.1 (.inl hk.2) (box_lt h.k)).trans h.k,⟨(hb.same _ ht.1 (.inl ht.2) (box_lt h.t.box)).trans h.t.box⟩⟩
def sealsV (SQ:Nat→Array Value) (n:Nat):List Value:=(List.range n).map fun i=>.agg (SQ (i+1))
theorem sealsV_at {SQ:Nat→Array Value} {n i:Nat} (h:i<n):(sealsV SQ n)[i]? = some (.agg (SQ (i+1))):=by
 unfold sealsV;rw[List.getElem?_map,List.getElem?_range h];rfl
theorem sealsV_len (SQ:Nat→Array Value) (n:Nat):(sealsV SQ n).length=n:=by simp[sealsV]
theorem seals_iter (k:KeyV) (x:TokM) (w w1:World) (kb tb ob:Nat) (hR:TokReads w x) (hc:∀ y∈x.L,CoOk y.c) (h1:1≤x.t.conds.length) (hn:x.t.conds.length≤1000) (hk:k.secret.size≤1000000) (hid:x.t.id.size≤1000000) (hK:Ks w) (hE:Env w) (hTb:Tab w)
  (SQ:Nat→Array Value) (hSQ:∀ i,SQ i=(b8 (seqS k x.t i)).toArray) (hI0:ItS w kb tb k.arr x w1) (hw:w.heap.size≤ob) (hkb:ob<kb∧kb<w1.heap.size) (htb:ob<tb∧tb<w1.heap.size) :
  IterN Tryz.prog 159 #[.pointer (some ⟨kb,0,none⟩),.pointer (some ⟨tb,0,none⟩)] (sealsV SQ x.t.conds.length) ob w1:=by
 have hl:=hR.conds.len
 have hcap:=hR.cap
 obtain⟨z,hz⟩:∃ z,x.L[0]? = some z:=⟨_,List.getElem?_eq_getElem (by omega)⟩
 have hzc:=hc z (List.mem_of_getElem? hz)
 have hhead:x.t.conds.headD zeroC=z.c:=by
  have:=toks_cond hR hz
  cases hcs:x.t.conds with
  | nil=>rw[hcs]at this;simp at this
  | cons a r=>rw[hcs]at this;simpa using this
 obtain⟨_,b,o,hA,hcell0⟩:=hR.conds.at_ hz
 have hld0:=fun (W:World) (hb:Below w.heap.size w W)=>cond_load W b o z (fun j u hu=>cell_keep hb (by have:=hcell0 j u hu;simpa using this))
 have hT0:=fun (W:World) (hb:Below w.heap.size w W)=>tText_any z.c z.m W ((hR.conds.each z (List.mem_of_getElem? hz)).keep hb) hzc (hE.keep hb) (hTb.keep hb)
 have hM:=fun (g:Nat) (W:World) (hr:Reads W 1 (some ⟨g,0,none⟩) 2 ([x.t.id,textC z.c].map .string)) (hb:Below w.heap.size w W)=>makeSeal_any k 45 (by decide) (some ⟨g,0,none⟩) 2 2 [x.t.id,textC z.c] W hr (by omega) hk (by
  intro s h
  simp only[List.mem_cons,List.not_mem_nil,or_false]at h
  rcases h with rfl | rfl
  ·exact hid
  ·exact hzc.tx) (hK.keep hb)
 have hfirst:makeS k 45 [x.t.id,textC z.c]=seqS k x.t 1:=by
  show _=firstS k x.t
  unfold firstS;rw[hhead]
 rw[hfirst]at hM
 have hN:=fun (i:Nat) (y:CoM) (hy:x.L[i]? = some y) (h0:1≤i) (W:World) (hb:Below w.heap.size w W)=>tNext_any (seqS k x.t i) (seq_ok k x.t i) y.c y.m W ((hR.conds.each y (List.mem_of_getElem? hy)).keep hb) (hc y (List.mem_of_getElem? hy)) (hE.keep hb) (hTb.keep hb) (hK.keep hb)
 have hN2:∀ (i:Nat) (y:CoM),x.L[i]? = some y→1≤i→nextS (seqS k x.t i) y.c=seqS k x.t (i+1):=fun i y hy h0=>(seq_step h0 (toks_cond hR hy)).symm
 have hld:=fun (i:Nat) (y:CoM) (hy:x.L[i]? = some y) (W:World) (hb:Below w.heap.size w W)=>cond_load W b (o+i*7) y (fun j u hu=>by
  obtain⟨_,b2,o2,hA2,hcell2⟩:=hR.conds.at_ hy
  rw[hA]at hA2
  injection hA2 with e
  injection e with e1 e2
  subst e1;subst e2
  exact cell_keep hb (hcell2 j u hu))
 generalize hln:x.t.conds.length=n at *
 have hsq:∀ i,(SQ i).size=16:=fun i=>by rw[hSQ,List.size_toArray,b8_len];exact (seq_ok k x.t i).len
 have hsq1:∀ i,(SQ i).all (·.oneCell')=true:=fun i=>by rw[hSQ];exact b8_all _
 simp only[←hSQ]at hM hN
 obtain⟨Y,hY,hYS⟩:∃ Y:Array Value,CondMem.val z.c z.m=.agg Y∧Y.size=7:=⟨_,rfl,rfl⟩
 rw[hY]at hT0 hld0
 have hKS:k.arr.size=5:=k.arr_size
 rw[KeyV.val_arr]at hM
 generalize k.arr=KX at *
 have HT0:=Lib.hid hT0;have HM:=Lib.hid hM;have HN:=Lib.hid hN;have HN2:=Lib.hid hN2;have HLD:=Lib.hid hld;have HLD0:=Lib.hid hld0;have HSQ:=Lib.hid hsq;have HSQ1:=Lib.hid hsq1;have HLN:=Lib.hid hln;have HXA:=Lib.hid hA;have HL:=Lib.hid hl;have HSS:=Lib.hid hSQ;have HKS:=Lib.hid hKS;have HYS:=Lib.hid hYS
 clear hT0 hM hN hN2 hld hld0 hsq hsq1 hln hA hl hSQ hKS hYS hfirst hcell0 hhead hzc hY hz hc hR hK hE hTb
 generalize textC z.c=tx at *
 intro l J Jx W hW hT hY hJ0
 have hS0:ItS w kb tb KX x W:=hI0.low hW (hI0.b.size) hkb.2 htb.2
 have HY:=Lib.hid hY;have HT:=Lib.hid hT
 clear hY hT hI0
 refine callsIn_wide.2 ?_
 show Calls Tryz.prog 159 #[.func (.yield l) #[] #[],.pointer (some ⟨kb,0,none⟩),.pointer (some ⟨tb,0,none⟩)] W _
 go_enter Tryz.func159,Tryz.ntmps159
 go_upto_region 0 with fail
 obtain⟨ZS,hZS⟩:∃ ZS:Array Value,ZS=(b8 (List.replicate 16 0)).toArray:=⟨_,rfl⟩
 have HZS:=Lib.hid (show ZS.size=16 by rw[hZS];rfl)
 have HZV:=Lib.hid hZS
 clear hZS
 have HS0:=Lib.hid hS0
 clear hS0
 refine wp_detD 11 (by kernel_rfl) (by kernel_rfl) (by kernel_rfl) (DL [IsV (.agg KX),IsV (.pointer (some ⟨tb,2,none⟩)),IsV (.string x.t.id),IsV (.pointer (some ⟨tb,3,none⟩)),IsV (.slice (some ⟨b,o,none⟩) n x.c),IsV (.pointer (some ⟨b,o,none⟩)),IsV (.agg Y),IsV (.string tx),Row2 x.t.id tx,IsV (.agg (SQ 1)),AlS W.heap.size ZS]) (DL.keep _ (by simp only[KeepAll];repeat' (first | apply And.intro | exact keeps_is _ | exact keeps_row2 _ _ | exact keeps_alS _ _ | exact trivial))) (fun W'=>Below W.heap.size W W'∧ItS w kb tb KX x W') ⟨Below.drew (Below.refl _ _),HS0.out.keep (Below.drew (Below.refl _ _))⟩ (fun _ _ h hb=>⟨bstep h.1 hb,h.2.keep hb⟩) ?_ ?_
 ·dsimp only[List.take_succ_cons,List.take_zero,DetD]
  refine⟨fun vals W2 hS hd=>?_,fun vals W2 hS hd=>?_,fun vals W2 hS hd=>?_,fun vals W2 hS hd=>?_,fun vals W2 hS hd=>?_,fun vals W2 hS hd=>?_,fun vals W2 hS hd=>?_,fun vals W2 hS hd=>?_,fun vals W2 hS hd=>?_,fun vals W2 hS hd=>?_,fun vals W2 hS hd=>?_,trivial⟩
  ·(try simp only[DepsL,DL,IsV,List.getD_cons_zero,List.getD_cons_succ,Region.binds,and_true,true_and]at hd)
   simp only[putL,putF,Act.put]
   (try simp only[hd])
   clear hd
   have hld:=keyRow hS.2.k (by rw[HKS.out];exact infKey)
   go_wp2_with (refine wpList_load_addr rfl 23 _ rfl ⟨kb,0,none⟩ (.agg KX) rfl hld ?_)
   exact⟨rfl,rfl,rfl,belB⟩
  rotate_left 5
  ·(try simp only[DepsL,DL,IsV,List.getD_cons_zero,List.getD_cons_succ,Region.binds,and_true,true_and]at hd)
   simp only[putL,putF,Act.put]
   (try simp only[hd])
   clear hd
   have hld:=HLD0.out W2 hS.2.b
   go_wp2_with (refine wpList_load_addr rfl 27 _ rfl ⟨b,o,none⟩ (.agg Y) rfl hld ?_)
   exact⟨rfl,rfl,rfl,belB⟩
  ·(try simp only[DepsL,DL,IsV,List.getD_cons_zero,List.getD_cons_succ,Region.binds,and_true,true_and]at hd)
   simp only[putL,putF,Act.put]
   (try simp only[hd])
   clear hd
   have hbW:=hS.2.b
   go_wp2_with (go_at_call 71;refine (HT0.out _ hbW).mono ?_;rintro e w5 ⟨rfl,hb5⟩)
   exact⟨rfl,rfl,rfl,belB⟩
  ·(try simp only[DepsL,DL,IsV,List.getD_cons_zero,List.getD_cons_succ,Region.binds,and_true,true_and]at hd)
   simp only[putL,putF,Act.put]
   (try simp only[hd])
   clear hd
   go_wp2
   exact⟨rfl,⟨_,rfl,reads2 W2 _ tx _ rfl⟩,rfl,belB⟩
  ·(try simp only[DepsL,DL,IsV,List.getD_cons_zero,List.getD_cons_succ,Region.binds,and_true,true_and]at hd)
   obtain⟨e0,⟨g,e2,hr5⟩,_⟩:=hd
   simp only[putL,putF,Act.put]
   (try simp only[e0,e2])
   have hbW:=hS.2.b
   go_wp2_with (go_at_call 160;refine (HM.out _ _ hr5 hbW).mono ?_;rintro e w5 ⟨rfl,hb5⟩)
   exact⟨rfl,rfl,rfl,belB⟩
  ·(try simp only[DepsL,DL,IsV,List.getD_cons_zero,List.getD_cons_succ,Region.binds,and_true,true_and]at hd)
   simp only[putL,putF,Act.put]
   (try simp only[hd])
   clear hd
   have hsz:=hS.1.size
   have hzv:=HZV.out
   go_wp2
   refine⟨rfl,⟨_,rfl,?_,by omega⟩,rfl,belB⟩
   rw[hzv]
   exact World.alloc_heap_new W2 _
  all_goals
   (try simp only[DepsL,DL,IsV,List.getD_cons_zero,List.getD_cons_succ,Region.binds,and_true,true_and]at hd)
   simp only[putL,putF,Act.put]
   (try simp only[hd])
   clear hd
   obtain⟨y0,y1,y2,y3⟩:=hS.2.t.cells
   rw[HLN.out,HXA.out]at y3
   go_wp2
   exact⟨rfl,rfl,rfl,belB⟩
 ·intro vals w9 hS9 hD9
  have e9:vals 9=.agg (SQ 1):=hD9 9 (by omega)
  obtain⟨g,e10,hg9,hgz⟩:AlS W.heap.size ZS (vals 10) w9:=hD9 10 (by omega)
  simp only[putL,putF,Act.put]
  simp only[e9,e10]
  clear hD9 e9 e10
  have hSI:=fun i=>(show (Tryz.prog.info? 30).map (·.size)=some (SQ i).size by rw[HSQ.out i];exact infSeal)
  have HSI:=Lib.hid hSI
  clear hSI
  have hws:=hW.size
  refine wpList_store_row rfl 30 _ _ rfl g (SQ 1) rfl rfl _ ZS hg9 (HSI.out 1) (by rw[HZS.out,HSQ.out]) (HSQ1.out 1) ?_
  generalize hw6:World.setRow _ _ _=w6
  have hg6:Box1 w6 g 30 (SQ 1):=by rw[←hw6];exact setRow_heap _ _ _ _ _ _ hg9
  have hb6:Below W.heap.size w9 w6:=by rw[←hw6];exact below_setRow (Below.refl _ _) hgz _
  have hS6:=hS9.2.low hb6 (by omega) (by omega) (by omega)
  have hbW6:Below W.heap.size W w6:=hS9.1.trans hb6
  have hJ6:=HT.out _ _ _ hJ0 hbW6
  have HW6:=Lib.hid hbW6.size
  have HG6:=Lib.hid hg6;have HS6:=Lib.hid hS6;have HJ6:=Lib.hid hJ6
  clear hw6 hg9 hS9 HS0 hg6 hS6 hb6 hbW6 hJ6 hJ0
  obtain⟨y0,y1,y2,y3⟩:=HS6.out.t.cells
  rw[HLN.out,HXA.out]at y3
  have i1:(1:Int)≤(n:Int):=by omega
  go_upto_region 1 with fail
  dsimp only[Act.put]
  go_cut [19,20,21] (fun v19 v20 v21 wx=>∃ o' c',v19=.slice (some ⟨b,o',none⟩) (n-1) c'∧(1<n→o'=o+7)∧v20=.int .i64 ((n-1:Nat):Int)∧v21=.int .i64 0∧wx=w6)
  case first =>
   obtain⟨cc,hcc⟩:∃ cc,cc=x.c:=⟨_,rfl⟩
   rw[←hcc]at y3 hcap
   clear hcc
   go_wp2_with fail
   all_goals (go_meet;first | exact⟨_,_,rfl,fun h=>by omega,rfl,rfl,rfl⟩ | trace_state)
  case rest =>
   obtain⟨o',c',rfl,ho',rfl,rfl,rfl⟩:=hcut
   clear y0 y1 y2 y3
   have hobW:ob<W.heap.size:=by omega
   have hwr6:=HW6.out
   clear i1
   go_wp2
   go_loopw [21] (fun iv wr=>∃ j:Nat,j≤n-1∧iv=.int .i64 j∧W.heap.size≤wr.heap.size∧Hid (Box1 wr g 30 (SQ (j+1)))∧Hid (ItS w kb tb KX x wr)∧Hid (J j wr)) (fun iv _=>(n-1)-(intOf iv).toNat)
   case atStart=>exact⟨0,by omega,rfl,hwr6,HG6,HS6,HJ6⟩
   case round =>
    obtain⟨j,hj,rfl,hwr,HG,HS,HJ⟩:=hrel
    clear HG6 HS6 HJ6
    by_cases hlt:j<n-1
    ·obtain⟨y,hy⟩:∃ y,x.L[j+1]? = some y:=⟨_,List.getElem?_eq_getElem (by have:=HL.out;omega)⟩
     have hoo:=ho' (by omega)
     subst hoo
     have hcN:=HN.out (j+1) y hy (by omega)
     have hldi:=HLD.out (j+1) y hy wr HS.out.b
     have hnn:=HN2.out (j+1) y hy (by omega)
     simp only[hnn,←HSS.out]at hcN
     rw[show o+(j+1)*7=o+7+j*7 by omega]at hldi
     obtain⟨Yi,hYi,hYiS,hYiO⟩:∃ Yi:Array Value,CondMem.val y.c y.m=.agg Yi∧Yi.size=7∧Yi.all (·.oneCell')=true:=⟨_,rfl,rfl,by rw[List.all_toArray];rfl⟩
     rw[hYi]at hcN hldi
     have HCN:=Lib.hid hcN;have HLDI:=Lib.hid hldi;have HYO:=Lib.hid hYiO;have HYI:=Lib.hid (show (Tryz.prog.info? 27).map (·.size)=some Yi.size by rw[hYiS];kernel_rfl);have HYIS:=Lib.hid hYiS
     have hk0:(0:Int)≤(j:Int):=by omega
     have hk1:(j:Int)<((n-1:Nat):Int):=by omega
     clear hcN hldi hnn hYi hYiS hYiO hy
     go_upto_region 4 with (first
      | (refine wpList_load_addr rfl 27 _ rfl ⟨b,o+7+j*7,none⟩ (.agg Yi) rfl HLDI.out ?_)
      | (refine wpList_store_row rfl _ _ _ rfl wr.heap.size Yi rfl rfl _ #[.int .i64 0,.int .i64 0,.string ⟨#[]⟩,.slice none 0 0,.slice none 0 0,.slice none 0 0,.int .i64 0] (heap_alloc_new wr _) HYI.out (by rw[HYIS.out];rfl) HYO.out ?_))
     dsimp only[Act.put]
     generalize hw3:World.setRow _ _ _=w3
     have B3:Box1 w3 wr.heap.size 27 Yi:=by rw[←hw3];exact setRow_heap _ _ _ _ _ _ (heap_alloc_new wr _)
     have hb3:Below wr.heap.size wr w3:=by rw[←hw3];exact below_setRow ((Below.refl _ _).alloc (Nat.le_refl _) _) (Nat.le_refl _) _
     have hG3:=HG.out.keep hb3
     have hS3:=HS.out.keep hb3
     have hJ3:=HT.out _ _ _ HJ.out (hb3.mono hwr)
     have hgl:=box_lt HG.out
     have hs3:=hb3.size
     clear hw3 HG HS HJ HLDI
     obtain⟨fn,tmps,assign,body,hy,hRd⟩:=HY.out j _ w3 (sealsV_at (SQ:=SQ) (n:=n) (i:=j) (by omega)) hJ3
     have HB3:=Lib.hid B3;have HG3:=Lib.hid hG3;have HS3:=Lib.hid hS3;           have hldy:=seal_row hG3 (HSQ.out (j+1))
     clear B3 hG3 hS3 hJ3
     refine (wpIn_wide (n:=0)).1 ?_
     gi_wp2_with (refine wpListIn_load_addr rfl 30 _ rfl ⟨g,0,none⟩ _ rfl hldy ?_)
     clear hldy
     refine⟨rfl,hRd.mono ?_⟩
     clear hRd hy
     rintro e W' (⟨rfl,hJ',hk'⟩ | ⟨rfl,hJx'⟩)
     ·have hG4:Box1 W' g 30 (SQ (j+1)):=(hk'.same g (by omega) (.inr (by omega)) (by omega)).trans HG3.out
      have hB4:Box1 W' wr.heap.size 27 Yi:=(hk'.same _ (by omega) (.inr hwr) (by have:=box_lt HB3.out;exact this)).trans HB3.out
      have hS4:=HS3.out.round hk' hw hkb htb
      have hsW':=hk'.low.size
      gi_wp2
      have hlds:=seal_row hG4 (HSQ.out (j+1))
      have hldc:=cond_row hB4 HYIS.out
      have HLS:=Lib.hid hlds;have HLC:=Lib.hid hldc;have HG4:=Lib.hid hG4;have HS4:=Lib.hid hS4
      have hJn:=HT.out
      clear hlds hldc hG4 hB4 hS4 hk' HB3 HG3 HS3
      have HJN:=Lib.hid hJn;have HJ':=Lib.hid hJ'
      clear hJn hJ'
      go_wp2_with (first
       | (refine wpList_load_addr rfl 30 _ rfl ⟨g,0,none⟩ (.agg (SQ (j+1))) rfl HLS.out ?_)
       | (refine wpList_load_addr rfl 27 _ rfl ⟨wr.heap.size,0,none⟩ (.agg Yi) rfl HLC.out ?_)
       | (go_at_call 52;refine (HCN.out _ HS4.out.b).mono ?_;rintro e w5 ⟨rfl,hb5⟩)
       | (refine wpList_store_row rfl _ _ _ rfl g (SQ (j+1+1)) rfl rfl _ (SQ (j+1)) (HG4.out.keep hb5) (HSI.out (j+1+1)) (by rw[HSQ.out,HSQ.out]) (HSQ1.out (j+1+1)) ?_))
      generalize hw6:World.setRow _ _ _=w6
      have hg6:Box1 w6 g 30 (SQ (j+1+1)):=by rw[←hw6];exact setRow_heap _ _ _ _ _ _ (HG4.out.keep hb5)
      have hb6:Below W.heap.size w5 w6:=by rw[←hw6];exact below_setRow (Below.refl _ _) hgz _
      have hs5:=hb5.size
      have hs6:=hb6.size
      have hS6:=(HS4.out.keep hb5).low hb6 (by omega) (by omega) (by omega)
      have hJ6:=HJN.out _ _ _ HJ'.out ((hb5.mono (show W.heap.size≤W'.heap.size by omega)).trans hb6)
      exact⟨⟨j+1,by omega,by go_num,by omega,Lib.hid hg6,Lib.hid hS6,Lib.hid hJ6⟩,by simp[intOf];omega⟩
     ·gi_wp2
      go_wp2
      refine bodyPost_ret (results_none rfl _ _ _) rfl ?_
      exact⟨⟨_,rfl⟩,.inr hJx'⟩
    ·obtain rfl:j=n-1:=by omega
     go_upto_region 7 with fail
     have hG3:=HG.out
     have hJ3:=HJ.out
     obtain⟨fn,tmps,assign,body,hy,hRd⟩:=HY.out (n-1) _ wr (sealsV_at (SQ:=SQ) (n:=n) (i:=n-1) (by omega)) hJ3
     have hldy:=seal_row hG3 (HSQ.out (n-1+1))
     have hn1:n-1+1=n:=by omega
     rw[hn1]at hy hldy
     clear hJ3 hG3 HG HJ HS
     refine (wpIn_wide (n:=0)).1 ?_
     gi_wp2_with (refine wpListIn_load_addr rfl 30 _ rfl ⟨g,0,none⟩ _ rfl hldy ?_)
     clear hldy
     refine⟨rfl,hRd.mono ?_⟩
     clear hRd hy
     rintro e W' (⟨rfl,hJ',hk'⟩ | ⟨rfl,hJx'⟩)
     ·rw[hn1]at hJ'
      gi_wp2
      go_end0
      exact⟨⟨_,rfl⟩,.inl (by rw[sealsV_len];exact hJ')⟩
     ·gi_wp2
      go_end0
      exact⟨⟨_,rfl⟩,.inr hJx'⟩
attribute [local go_sem] Oper.semAt_some
theorem sealsF_any (KX TX:Array Value) (w:World):Calls Tryz.prog 91 #[.agg KX,.agg TX] w fun e w' =>
  e=.returned (.func (.func 159) #[] #[.pointer (some ⟨w.heap.size,0,none⟩),.pointer (some ⟨w.heap.size+1,0,none⟩)])∧w'=(w.alloc (.cells KX 23)).alloc (.cells TX 32):=by
 have hmf:∀ (fn:Fn) (first cap:Array Value) (w:World),(Instr.makeFunc fn first cap).run Tryz.prog w=.ok (.func fn first cap) w:=fun _ _ _ _=>rfl
 go_enter Tryz.func91,Tryz.ntmps91
 go_wp2
 go_ret
 exact⟨by simp,rfl⟩
theorem tok_row {w:World} {g:Nat} {X:Array Value} {t:TypeId} (hg:w.heap[g]? = some (.cells X t (0,0))) (hs:X.size=20):(loadVar 32 ⟨g,0,none⟩).run Tryz.prog w=.ok (.agg X) w :=
 run_loadVar_row (P:=Tryz.prog) w g _ 32 X _ _ hg Tryz.underlying32 rfl (by rw[hs];kernel_rfl)
structure RiS (w:World) (ZS X:Array Value) (W:World):Prop where
 r:Box1 W (w.heap.size+2) 30 ZS
 o:Box1 W (w.heap.size+3) 30 X
 b:Below w.heap.size w W
 s:w.heap.size+3<W.heap.size
theorem RiS.keep {w W W':World} {ZS X:Array Value} {B:Nat} (h:RiS w ZS X W) (hb:Below B W W') (hB:w.heap.size+4≤B):RiS w ZS X W' :=
 ⟨(hb.block _ (by omega)).trans h.r,(hb.block _ (by omega)).trans h.o,h.b.trans (hb.mono (by omega)),Nat.lt_of_lt_of_le h.s hb.size⟩
theorem right_any (k:KeyV) (x:TokM) (w:World) (hR:TokReads w x) (hc:∀ y∈x.L,CoOk y.c) (h1:1≤x.t.conds.length) (hn:x.t.conds.length≤1000) (hk:k.secret.size≤1000000) (hid:x.t.id.size≤1000000) (hK:Ks w) (hE:Env w) (hTb:Tab w) :
  Calls Tryz.prog 44 #[k.val,x.val] w (Ret w (.agg (b8 (rightS k x.t)).toArray)):=by
 obtain⟨SQ,hSQ⟩:∃ SQ:Nat→Array Value,∀ i,SQ i=(b8 (seqS k x.t i)).toArray:=⟨fun i=>(b8 (seqS k x.t i)).toArray,fun _=>rfl⟩
 have hsq:∀ i,(SQ i).size=16:=fun i=>by rw[hSQ,List.size_toArray,b8_len];exact (seq_ok k x.t i).len
 have hsq1:∀ i,(SQ i).all (·.oneCell')=true:=fun i=>by rw[hSQ];exact b8_all _
 have hIt:=fun (w1:World) (kb tb ob:Nat)=>seals_iter k x w w1 kb tb ob hR hc h1 hn hk hid hK hE hTb SQ hSQ
 rw[←seq_end,←hSQ]
 have hTS:x.cells.toArray.size=20:=by rw[List.size_toArray];exact hR.size
 rw[KeyV.val_arr]
 unfold TokM.val
 have hKS:k.arr.size=5:=k.arr_size
 generalize k.arr=KX at *
 generalize x.t.conds.length=n at *
 have HIT:=Lib.hid hIt;have HSQ:=Lib.hid hsq;have HSQ1:=Lib.hid hsq1;have HTS:=Lib.hid hTS;have HKS:=Lib.hid hKS
 have HSI:=Lib.hid (fun i=>(show (Tryz.prog.info? 30).map (·.size)=some (SQ i).size by rw[hsq i];exact infSeal))
 clear hIt hsq hsq1 hTS hKS hSQ hR hc hK hE hTb
 refine (callsIn_wide (n:=0)).1 ?_;refine callsIn_of_wp_marks Tryz.func44 rfl trivial ?_ rfl;simp only[Tryz.ntmps44,List.size_toArray,List.length_cons,List.length_nil,Nat.reduceAdd,Nat.reduceSub,Array.replicate_succ,Array.replicate_zero,List.push_toArray,List.append_toArray,List.nil_append,List.cons_append];refine wpIn_wide.2 ?_
 go_upto_region 2 with fail
 generalize hw0:World.alloc _ _=w0
 obtain⟨ZS,hZS⟩:∃ ZS:Array Value,ZS=(b8 (List.replicate 16 0)).toArray:=⟨_,rfl⟩
 have hz4:w0.heap.size=w.heap.size+4:=by rw[←hw0];simp
 have hx0:Box1 w0 w.heap.size 23 KX:=by rw[←hw0];exact (heap_alloc_old _ _ (by simp;omega)).trans (alloc3_box w _ _ _).1
 have ht0:Box1 w0 (w.heap.size+1) 32 x.cells.toArray:=by rw[←hw0];exact (heap_alloc_old _ _ (by simp)).trans (alloc3_box w _ _ _).2.1
 have hi0:RiS w ZS ZS w0:=by
  rw[←hw0,hZS]
  refine⟨(heap_alloc_old _ _ (by simp)).trans (alloc3_box w _ _ _).2.2,?_,belB,by simp⟩
  have:=heap_alloc_new (((w.alloc (.cells KX 23)).alloc (.cells x.cells.toArray 32)).alloc (.cells (b8 (List.replicate 16 0)).toArray 30)) (.cells (b8 (List.replicate 16 0)).toArray 30)
  have e:(((w.alloc (.cells KX 23)).alloc (.cells x.cells.toArray 32)).alloc (.cells (b8 (List.replicate 16 0)).toArray 30)).heap.size=w.heap.size+3:=by simp
  rw[e]at this
  exact this
 have hZS16:ZS.size=16:=by rw[hZS];rfl
 have HZV:=Lib.hid hZS
 clear hw0 hZS
 have hldk:=keyRow hx0 (by rw[HKS.out];exact infKey)
 have hldt:=tok_row ht0 HTS.out
 have HZ4:=Lib.hid hz4
 clear hx0 ht0 hz4
 go_wp2_with (first
  | (refine wpList_load_addr rfl 23 _ rfl ⟨w.heap.size,0,none⟩ (.agg KX) rfl hldk ?_)
  | (refine wpList_load_addr rfl 32 _ rfl ⟨w.heap.size+1,0,none⟩ (.agg x.cells.toArray) rfl hldt ?_)
  | (go_at_call 91;refine (sealsF_any KX x.cells.toArray w0).mono ?_;rintro e w1 ⟨rfl,hw1⟩;have HW1:=Lib.hid hw1;clear hw1))
 have hz4:=HZ4.out
 have hw1:=HW1.out
 have hb1:Below w0.heap.size w0 w1:=by rw[hw1];exact balloc (balloc (Below.refl _ _) _) _
 have hz1:w1.heap.size=w.heap.size+6:=by rw[hw1];simp;omega
 have hits:ItS w w0.heap.size (w0.heap.size+1) KX x w1:=by
  refine⟨hi0.b.trans (hb1.mono (by omega)),?_,⟨?_⟩⟩
  ·rw[hw1];exact (alloc2_box w0 _ _).1
  ·rw[hw1];exact (alloc2_box w0 _ _).2
 have hseq:=HIT.out w1 w0.heap.size (w0.heap.size+1) (w.heap.size+3) hits (by omega) ⟨by omega,by omega⟩ ⟨by omega,by omega⟩
 have hi1:RiS w ZS ZS w1:=hi0.keep hb1 (by omega)
 clear hldk hldt hi0 hb1 hits hw1
 obtain⟨OX,hOX0,hOX⟩:∃ OX:Nat→Array Value,OX 0=ZS∧∀ j,OX (j+1)=SQ (j+1):=⟨fun j=>if j=0 then ZS else SQ j,rfl,fun j=>rfl⟩
 have hOS:∀ j,(OX j).size=16:=fun j=>by
  cases j with
  | zero=>rw[hOX0];exact hZS16
  | succ j=>rw[hOX];exact HSQ.out _
 rw[←hOX0]at hi1
 refine (wpIn_wide (n:=0)).1 ?_
 refine range_lawN (a:=?act) (gf:=159) (lb:=#[.pointer (some ⟨w0.heap.size,0,none⟩),.pointer (some ⟨w0.heap.size+1,0,none⟩)]) ?geq (enters_of Tryz.func159 (by kernel_rfl) rfl) (ob:=w.heap.size+3) (by omega) hseq (Below.refl _ _) (fun j W=>RiS w (OX 0) (OX j) W) (fun j A B h hb=>h.keep hb (by omega)) hi1 (fun v a' W=>∃ g X,v=.agg X∧a'=Act.put (Act.put ?act (some 10) v) (some 6) (.pointer (some ⟨g,0,none⟩))∧w.heap.size+4≤g∧Box1 W g 30 X) ?ax ?assign ?body ?done
 case geq=>rfl
 case ax =>
  rintro v a' W l o o' ⟨g,X,e1,e2,hg,hx⟩ ho hc
  refine⟨g,X,e1,e2,hg,(World.putObj_heap_other ?_).trans hx⟩
  intro e
  subst e
  unfold Box1 at hx
  rw[hx]at ho
  injection ho with ho
  subst ho
  cases hc
 case assign =>
  intro l j v W K hv hi hs hK
  clear hz4
  have hjl:j<n:=by have:=(List.getElem?_eq_some_iff.1 hv).1;rwa [sealsV_len]at this
  rw[sealsV_at hjl]at hv
  injection hv with hv
  subst hv
  gi_wp2_with (refine wpListIn_store_row rfl 30 _ _ rfl W.heap.size (SQ (j+1)) rfl rfl _ (b8 (List.replicate 16 0)).toArray (heap_alloc_new W _) (HSI.out _) (by rw[HSQ.out];rfl) (HSQ1.out _) ?_)
  have hb2:Below W.heap.size W ((W.alloc (.cells (b8 (List.replicate 16 0)).toArray 30)).setRow W.heap.size (SQ (j+1))):=below_setRow (below_alloc _ _) (Nat.le_refl _) _
  refine hK _ _ (KeepBut.of_below hb2 (by omega)) (hi.keep hb2 (by omega)) ⟨W.heap.size,SQ (j+1),rfl,rfl,by omega,setRow_heap _ _ _ _ _ _ (heap_alloc_new W _)⟩
 case body =>
  rintro l j v a' W hv hi ⟨g,X,rfl,rfl,hg,hx⟩
  clear hz4
  have hjl:j<n:=by have:=(List.getElem?_eq_some_iff.1 hv).1;rwa [sealsV_len]at this
  rw[sealsV_at hjl]at hv
  injection hv with hv
  injection hv with hv
  subst hv
  have hld:=seal_row hx (HSQ.out _)
  have HLD:=Lib.hid hld
  clear hld
  dsimp only[Act.put]
  gi_wp2_with (first
   | (refine wpListIn_load_addr rfl 30 _ rfl ⟨g,0,none⟩ (.agg (SQ (j+1))) rfl HLD.out ?_)
   | (refine wpListIn_store_row rfl 30 _ _ rfl (w.heap.size+3) (SQ (j+1)) rfl rfl _ (OX j) hi.o (HSI.out _) (by rw[HSQ.out,hOS]) (HSQ1.out _) ?_))
  have hb3:Below (w.heap.size+3) W (W.setRow (w.heap.size+3) (SQ (j+1))):=below_setRow (Below.refl _ _) (Nat.le_refl _) _
  refine⟨⟨hb3,fun k h1 _=>setRow_other _ _ _ _ (by omega)⟩,⟨(hb3.block _ (by omega)).trans hi.r,?_,hi.b.trans (hb3.mono (by omega)),Nat.lt_of_lt_of_le hi.s hb3.size⟩⟩
  rw[hOX]
  exact setRow_heap _ _ _ _ _ _ hi.o
 case done =>
  intro D W hD hi hK
  rw[sealsV_len]at hi
  obtain⟨m,rfl⟩:∃ m,n=m+1:=⟨n-1,by omega⟩
  rw[hOX,hOX0]at hi
  have hld:=seal_row hi.o (HSQ.out _)
  have HLD:=Lib.hid hld
  clear hld
  go_wp2_with (first
   | (refine wpList_load_addr rfl 30 _ rfl ⟨w.heap.size+3,0,none⟩ (.agg (SQ (m+1))) rfl HLD.out ?_)
   | (refine wpList_store_row rfl 30 _ _ rfl (w.heap.size+2) (SQ (m+1)) rfl rfl _ ZS hi.r (HSI.out _) (by rw[HSQ.out,hZS16]) (HSQ1.out _) ?_))
  have hb3:Below w.heap.size W (W.setRow (w.heap.size+2) (SQ (m+1))):=below_setRow (Below.refl _ _) (by omega) _
  have hk3:(W.setRow (w.heap.size+2) (SQ (m+1))).heap[D]? = some (.deferred (some [])):=(setRow_other _ _ _ _ (by omega)).trans hK
  have hr3:Box1 (W.setRow (w.heap.size+2) (SQ (m+1))) (w.heap.size+2) 30 (SQ (m+1)):=setRow_heap _ _ _ _ _ _ hi.r
  have hbw:=hi.b.trans hb3
  generalize W.setRow (w.heap.size+2) (SQ (m+1))=W3 at *
  refine⟨by simp,.inl ⟨_,_,rfl,run_takeDeferred hk3,?_⟩⟩
  refine⟨.agg (SQ (m+1)),?_,?_⟩
  ·exact results_cell_row rfl _ _ (w.heap.size+2) _ _ (0,0) _ rfl ((World.putObj_heap_other (by omega)).trans hr3) Tryz.underlying30 rfl (HSI.out _)
  ·exact⟨rfl,hbw.grown (grownBy_putObj' W3 D _) (by have:=hbw.size;omega) (fun r e=>by cases e;omega)⟩
theorem field_size (s:ByteArray) (hs:s.size≤100000) (k:Nat):((splitB 32 s).getD k tilde).size≤100000:=by
 rw[List.getD_eq_getElem?_getD]
 cases h:(splitB 32 s)[k]? with
 | none=>show tilde.size≤_;decide
 | some x=>have:=splitB_size 32 s x (List.mem_of_getElem? h);simp;omega
theorem unT_size (s:ByteArray) (h:s.size≤100000):(unT s).size≤100000:=by
 unfold unT
 split
 ·decide
 ·exact h
theorem condF_fits (num:ByteArray→Int) (Ls:List ByteArray) (hz:∀ k,(Ls.getD k tilde).size≤100000):CondFits (condF num Ls):=by
 have n:=fun k=>listP_num (Ls.getD k tilde)
 have z:=fun k x (hx:x∈listP (Ls.getD k tilde))=>listP_size (Ls.getD k tilde) x hx
 refine⟨unT_size _ (hz 2),fun x hx=>Nat.le_trans (z 3 x hx) (hz 3),fun x hx=>Nat.le_trans (z 4 x hx) (hz 4),?_,?_,?_⟩
 ·have h1:=n 3;have h2:=hz 3;show (listP (Ls.getD 3 tilde)).length≤_;omega
 ·have h1:=n 4;have h2:=hz 4;show (listP (Ls.getD 4 tilde)).length≤_;omega
 ·have h1:=n 5;have h2:=hz 5;show ((listP (Ls.getD 5 tilde)).map num).length≤_;rw[List.length_map];omega
theorem zero_fits:CondFits zeroC:=fits_of ((valid_iff _).2 zero_ok) (by decide)
theorem readR_fits (s:ByteArray) (hs:s.size≤100000):CondFits ((readR s).getD zeroC):=by
 unfold readR
 split
 ·exact condF_fits _ _ (field_size s hs)
 ·exact zero_fits
theorem itoa_size2 (n:Int) (h0:0≤n) (h1:n≤1099511627777):(itoaB n).size≤13:=by
 rw[Lib.size_eq,itoa_dec n h0]
 exact (dec_len n.toNat (by omega)).1
theorem orT_size2 {a b:ByteArray} {B:Nat} (ha:a.size≤B) (hb:b.size≤B):(orT a b).size≤B:=by
 unfold orT;split <;> assumption
theorem joinT_size (xs:List ByteArray) (B n:Nat) (h:∀ x∈xs,x.size≤B) (hn:xs.length≤n):(joinT xs).size≤n*(B+1)+1:=by
 unfold joinT
 refine orT_size2 ?_ (by show 1≤_;omega)
 have h1:=join_le 44 B (xs.map (·.data.toList)) (by
  intro y hy
  obtain⟨z,hz,rfl⟩:=List.mem_map.1 hy
  have:=h z hz
  rwa [Lib.size_eq]at this)
 rw[List.length_map]at h1
 have h2:xs.length*(B+1)≤n*(B+1):=Nat.mul_le_mul_right _ hn
 unfold commaT
 rw[Lib.size_eq]
 show (Lib.join _ _).length≤_
 omega
theorem textE_iff (c:CondV) (s:ByteArray):(validC c=true∧textC c=s)↔((textE c).2=0∧(textE c).1=s):=by
 unfold textE
 cases validC c <;> simp
end Go.Proofs.YtlkbkclnbppigaaGreatDoor
