/- chain.Text. -/
import Derived.Test.YtlkbkclnbppigaaGreatDoorIZ41
import Derived.Test.YtlkbkclnbppigaaGreatDoorIZ40
set_option maxHeartbeats 16000000
namespace Go.Proofs.YtlkbkclnbppigaaGreatDoor
open Go.RowKit Go.Sort
set_option linter.unusedVariables false
set_option linter.unusedSimpArgs false
set_option maxRecDepth 100000
def Row3o (n0:Nat) (a b c:ByteArray):Value→World→Prop:=fun v W=>∃ g,v=.slice (some ⟨g,0,none⟩) 3 3∧W.ownsRow n0 9 1 (.slice (some ⟨g,0,none⟩) 3 3) 3 ([a,b,c].map .string)
theorem keeps_row3o (n0:Nat) (a b c:ByteArray):Keeps (Row3o n0 a b c):=fun _ _ _ ⟨g,e,hr⟩ hb=>⟨g,e,ownsRow_keep hr hb⟩
structure TxS (w:World) (X:Array Value) (W:World):Prop where
 x:Box1 W w.heap.size 32 X
 b:Below w.heap.size w W
 s:w.heap.size<W.heap.size
theorem TxS.keep {w W W':World} {X:Array Value} (h:TxS w X W) (hb:Below W.heap.size W W'):TxS w X W':=⟨h.x.keep hb,bstep h.b hb,Nat.lt_of_lt_of_le h.s hb.size⟩
theorem TxS.low {w W W':World} {X:Array Value} (h:TxS w X W) (hb:Below (w.heap.size+1) W W'):TxS w X W':=⟨(hb.block _ (by omega)).trans h.x,h.b.trans (hb.mono (by omega)),Nat.lt_of_lt_of_le h.s hb.size⟩
def headT (t:TokV):List ByteArray:=[itoaB t.cust,itoaB t.ser,t.id]
def OwnBy (n0 n:Nat) (xs:List Value):Value→World→Prop:=fun v W=>W.ownsRow n0 5 1 v n xs
def OwnB2 (n0:Nat) (ys:List Value):Value→World→Prop:=fun v W=>∃ g,v=.slice (some ⟨g,0,none⟩) 2 2∧W.ownsRow n0 5 1 v 2 ys
structure HxS (w:World) (X:Array Value) (n0 nn:Nat) (sv bv:Value) (sn:Nat) (ss xs:List Value) (W:World):Prop where
 t:TxS w X W
 st:W.ownsRow n0 9 1 sv sn ss
 by_:W.ownsRow n0 5 1 bv nn xs
 s:n0≤W.heap.size
theorem HxS.low {w W W':World} {X:Array Value} {nn:Nat} {sv bv:Value} {sn:Nat} {ss xs ys:List Value} (h:HxS w X (w.heap.size+1) nn sv bv sn ss xs W) (hb:HxG (w.heap.size+1) nn xs ys W W'):HxS w X (w.heap.size+1) nn sv bv sn ss xs W' :=
 ⟨h.t.low hb.low,hb.st _ _ _ h.st,hb.r1 _ h.by_,Nat.le_trans h.s hb.low.size⟩
theorem text25_any (x:TokM) (w:World) (hR:TokReads w x) (hf:∀ y∈x.L,CondFits y.c) (hcx:validT x.t=true→∀ y∈x.L,CoOk y.c) (hid:x.t.id.size≤1000000) (hn:x.t.conds.length≤1000) (hsz:validT x.t=true→(textT x.t).size≤140737488355328) (hE:Env w) (hTb:Tab w) :
  Calls Tryz.prog 35 #[x.val] w (Ret w (.tuple #[.string (if validT x.t then textT x.t else ⟨#[]⟩),.int .i64 (if validT x.t then 0 else 3)])):=by
 have hv:=fun (W:World) (hb:Below w.heap.size w W)=>tValid_any x W (hR.keep hb) hf (by omega) (by omega) (hE.keep hb)
 have hXS:x.cells.toArray.size=20:=by rw[List.size_toArray];exact hR.size
 obtain⟨i0,hi0,hz0,hz1,hz2⟩:=info_parts infoStr
 have HI:Hid ((Tryz.prog.info? 9=some i0)∧i0.zero=some (.string ⟨#[]⟩)∧i0.size=1∧i0.bytes=16):=Lib.hid ⟨hi0,hz0,hz1,hz2⟩
 clear hi0 hz0 hz1 hz2
 unfold TokM.val at hv ⊢
 have HXS:=Lib.hid hXS
 clear hXS
 cases hvt:validT x.t
 ·rw[hvt]at hv
  have HV:=Lib.hid hv
  clear hv hR hf hcx hE hTb hvt hsz
  go_enter Tryz.func35,Tryz.ntmps35
  go_upto_region 1 with fail
  generalize hw0:World.alloc _ _=w0
  have hS0:TxS w x.cells.toArray w0:=by rw[←hw0];exact⟨World.alloc_heap_new w _,belB,by simp⟩
  have hld:=tok_row hS0.x HXS.out
  have hb0:=hS0.b
  clear hw0
  go_wp2_with (first
   | (refine wpList_load_addr rfl 32 _ rfl ⟨w.heap.size,0,none⟩ (.agg x.cells.toArray) rfl hld ?_)
   | (go_at_call 14;refine (HV.out _ hb0).mono ?_;rintro e w1 ⟨rfl,hb1⟩))
  go_ret2
  exact⟨rfl,bstep hb0 hb1⟩
 rw[hvt]at hv
 rw[if_pos rfl,if_pos rfl]
 have hok:=(validT_iff _).1 hvt
 have hcr:=And.intro hok.c0 hok.c1
 have hsr:=And.intro hok.s0 hok.s1
 have hia:=fun (W:World) (hb:Below w.heap.size w W)=>itoa_any x.t.cust W (by omega) (by omega) (hTb.keep hb)
 have hib:=fun (W:World) (hb:Below w.heap.size w W)=>itoa_any x.t.ser W (by omega) (by omega) (hTb.keep hb)
 have hx0:x.cells.toArray[0]? = some (.int .i64 x.t.cust):=rfl
 have hx1:x.cells.toArray[1]? = some (.int .i64 x.t.ser):=rfl
 have hx2:x.cells.toArray[2]? = some (.string x.t.id):=rfl
 have hx3:x.cells.toArray[3]? = some (.slice x.A x.t.conds.length x.c):=rfl
 obtain⟨_,b,o,hA,hrow⟩:True∧∃ b o,x.A=some ⟨b,o,none⟩∧∀ j u,(x.L.flatMap CoM.cells)[j]? = some u→w.cell? ⟨b,o+j,none⟩=some u:=⟨trivial,hR.conds.rows.2 (by have:=hok.n0;omega)⟩
 have hl:=hR.conds.len
 have hld:=fun (i:Nat) (y:CoM) (hy:x.L[i]? = some y) (W:World) (hb:Below w.heap.size w W)=>cond_load W b (o+i*7) y (fun j u hu=>by
  obtain⟨_,b2,o2,hA2,hcell2⟩:=hR.conds.at_ hy
  rw[hA]at hA2
  injection hA2 with e
  injection e with e1 e2
  subst e1;subst e2
  exact cell_keep hb (hcell2 j u hu))
 have htx:=fun (y:CoM) (hy:y∈x.L) (W:World) (hb:Below w.heap.size w W)=>tText_any y.c y.m W ((hR.conds.each y hy).keep hb) (hcx hvt y hy) (hE.keep hb) (hTb.keep hb)
 have hts:=fun (W:World) (g:Nat) (h:TBox W g x)=>tok_seal hR h
 simp only[val_condA]at hld htx
 have hsl:=hR.sl
 have hfl:fieldsT x.t=headT x.t++(x.L.map fun y=>textC y.c)++[hexB x.t.sl]:=by
  unfold fieldsT headT
  rw[←hR.same,List.map_map]
  simp
 have hn0:=hok.n0
 obtain⟨V,hV⟩:∃ V,V=textT x.t:=⟨_,rfl⟩
 have hV2:V=sepT 59 (headT x.t++(x.L.map fun y=>textC y.c)++[hexB x.t.sl]):=by rw[hV,←hfl];rfl
 have hsz2:=hsz hvt
 rw[←hV]at hsz2
 clear hsz
 rw[←hV]
 generalize hln:x.t.conds.length=n at *
 rw[hA]at hx3
 have HV:=Lib.hid hv;have HIA:=Lib.hid hia;have HIB:=Lib.hid hib;have HLD:=Lib.hid hld;have HTX:=Lib.hid htx;have HTS:=Lib.hid hts;have HSL:=Lib.hid hsl;have HVV:=Lib.hid hV2;have HL:=Lib.hid hl
 have HX:=Lib.hid (And.intro hx0 (And.intro hx1 (And.intro hx2 hx3)))
 clear hv hia hib hld htx hts hsl hV2 hV hl hx0 hx1 hx2 hx3 hfl hrow hA hok hcr hsr hR hf hcx hE hTb hvt hln
 go_enter Tryz.func35,Tryz.ntmps35
 go_upto_region 1 with fail
 generalize hw0:World.alloc _ _=w0
 have hS0:TxS w x.cells.toArray w0:=by rw[←hw0];exact⟨World.alloc_heap_new w _,belB,by simp⟩
 have hld:=tok_row hS0.x HXS.out
 have hb0:=hS0.b
 clear hw0
 go_upto_region 3 with (first
  | (refine wpList_load_addr rfl 32 _ rfl ⟨w.heap.size,0,none⟩ (.agg x.cells.toArray) rfl hld ?_)
  | (go_at_call 14;refine (HV.out _ hb0).mono ?_;rintro e w1 ⟨rfl,hb1⟩))
 have hS1:=hS0.keep hb1
 have HS1:=Lib.hid hS1
 clear hld hb0 hb1 hS0 hS1
 refine wp_detD 9 (by kernel_rfl) (by kernel_rfl) (by kernel_rfl) (DL [IsV (.pointer (some ⟨w.heap.size,0,none⟩)),IsV (.int .i64 x.t.cust),IsV (.string (itoaB x.t.cust)),IsV (.pointer (some ⟨w.heap.size,1,none⟩)),IsV (.int .i64 x.t.ser),IsV (.string (itoaB x.t.ser)),IsV (.pointer (some ⟨w.heap.size,2,none⟩)),IsV (.string x.t.id),Row3o (w.heap.size+1) (itoaB x.t.cust) (itoaB x.t.ser) x.t.id]) (DL.keep _ (by simp only[KeepAll];repeat' (first | apply And.intro | exact keeps_is _ | exact keeps_row3o _ _ _ _ | exact trivial))) (TxS w x.cells.toArray) (HS1.out.keep (Below.drew (Below.refl _ _))) (fun _ _ h hb=>h.keep hb) ?_ ?_
 ·dsimp only[List.take_succ_cons,List.take_zero,DetD]
  refine⟨fun vals W hS hd=>?_,fun vals W hS hd=>?_,fun vals W hS hd=>?_,fun vals W hS hd=>?_,fun vals W hS hd=>?_,fun vals W hS hd=>?_,fun vals W hS hd=>?_,fun vals W hS hd=>?_,fun vals W hS hd=>?_,trivial⟩
  ·(try simp only[DepsL,DL,IsV,List.getD_cons_zero,List.getD_cons_succ,Region.binds,and_true,true_and]at hd)
   simp only[putL,putF,Act.put]
   (try simp only[hd])
   clear hd
   go_wp2
   exact⟨rfl,rfl,rfl,belB⟩
  ·(try simp only[DepsL,DL,IsV,List.getD_cons_zero,List.getD_cons_succ,Region.binds,and_true,true_and]at hd)
   simp only[putL,putF,Act.put]
   (try simp only[hd])
   clear hd
   have hcl:=hS.x.cell HX.out.1
   go_wp2
   exact⟨rfl,rfl,rfl,belB⟩
  ·(try simp only[DepsL,DL,IsV,List.getD_cons_zero,List.getD_cons_succ,Region.binds,and_true,true_and]at hd)
   simp only[putL,putF,Act.put]
   (try simp only[hd])
   clear hd
   have hbW:=hS.b
   go_wp2_with (go_at_call 57;refine (HIA.out _ hbW).mono ?_;rintro e w5 ⟨rfl,hb5⟩)
   exact⟨rfl,rfl,rfl,belB⟩
  ·(try simp only[DepsL,DL,IsV,List.getD_cons_zero,List.getD_cons_succ,Region.binds,and_true,true_and]at hd)
   simp only[putL,putF,Act.put]
   (try simp only[hd])
   clear hd
   go_wp2
   exact⟨rfl,rfl,rfl,belB⟩
  ·(try simp only[DepsL,DL,IsV,List.getD_cons_zero,List.getD_cons_succ,Region.binds,and_true,true_and]at hd)
   simp only[putL,putF,Act.put]
   (try simp only[hd])
   clear hd
   have hcl:=hS.x.cell HX.out.2.1
   go_wp2
   exact⟨rfl,rfl,rfl,belB⟩
  ·(try simp only[DepsL,DL,IsV,List.getD_cons_zero,List.getD_cons_succ,Region.binds,and_true,true_and]at hd)
   simp only[putL,putF,Act.put]
   (try simp only[hd])
   clear hd
   have hbW:=hS.b
   go_wp2_with (go_at_call 57;refine (HIB.out _ hbW).mono ?_;rintro e w5 ⟨rfl,hb5⟩)
   exact⟨rfl,rfl,rfl,belB⟩
  ·(try simp only[DepsL,DL,IsV,List.getD_cons_zero,List.getD_cons_succ,Region.binds,and_true,true_and]at hd)
   simp only[putL,putF,Act.put]
   (try simp only[hd])
   clear hd
   go_wp2
   exact⟨rfl,rfl,rfl,belB⟩
  ·(try simp only[DepsL,DL,IsV,List.getD_cons_zero,List.getD_cons_succ,Region.binds,and_true,true_and]at hd)
   simp only[putL,putF,Act.put]
   (try simp only[hd])
   clear hd
   have hcl:=hS.x.cell HX.out.2.2.1
   go_wp2
   exact⟨rfl,rfl,rfl,belB⟩
  ·(try simp only[DepsL,DL,IsV,List.getD_cons_zero,List.getD_cons_succ,Region.binds,and_true,true_and]at hd)
   simp only[putL,putF,Act.put]
   (try simp only[hd])
   clear hd
   have hsW:=hS.s
   go_wp2
   exact⟨rfl,⟨_,rfl,World.ownsRow_lit (base:=w.heap.size+1) (e:=9) (size:=1) W #[.string (itoaB x.t.cust),.string (itoaB x.t.ser),.string x.t.id] 3 (by omega) (by unfold maxLen;omega) rfl⟩,rfl,belB⟩
 ·intro vals w9 hS9 hD9
  obtain⟨g8,e8,ho8⟩:Row3o (w.heap.size+1) (itoaB x.t.cust) (itoaB x.t.ser) x.t.id (vals 8) w9:=hD9 8 (by omega)
  simp only[putL,putF,Act.put]
  simp only[e8,Nat.zero_add,Nat.reduceAdd]
  clear hD9 e8
  have HS9:=Lib.hid hS9
  have hcl:=hS9.x.cell HX.out.2.2.2
  have HO8:=Lib.hid (show w9.ownsRow (w.heap.size+1) 9 1 (.slice (some ⟨g8,0,none⟩) 3 3) 3 ((headT x.t++((x.L.map fun y=>textC y.c).take 0)).map .string) from ho8)
  clear ho8 hS9 HS1
  go_wp2
  have hz9:=HS9.out.s
  go_loopw [4,25] (fun va vi wr=>∃ (k:Nat) (A':Option Addr) (c':Nat),(va=.slice A' (3+k) c'∧vi=.int .i64 k∧k≤n)∧Hid (wr.ownsRow (w.heap.size+1) 9 1 (.slice A' (3+k) c') (3+k) ((headT x.t++((x.L.map fun y=>textC y.c).take k)).map .string))∧Hid (TxS w x.cells.toArray wr)) (fun _ vi _=>n-(intOf vi).toNat)
  case atStart=>exact⟨0,_,_,⟨rfl,rfl,Nat.zero_le _⟩,HO8,HS9⟩
  case round =>
   obtain⟨k,A',c',⟨rfl,rfl,hk⟩,HOWN,HS⟩:=hrel
   clear HO8 HS9 hcl
   by_cases hlt:k<n
   ·obtain⟨y,hy⟩:∃ y,x.L[k]? = some y:=⟨_,List.getElem?_eq_getElem (by have:=HL.out;omega)⟩
    have hldi:=HLD.out k y hy wr HS.out.b
    have htk:(x.L.map fun y=>textC y.c).take (k+1)=(x.L.map fun y=>textC y.c).take k++[textC y.c]:=by rw[List.take_add_one,List.getElem?_map,hy];rfl
    have htx:=HTX.out y (List.mem_of_getElem? hy)
    generalize textC y.c=tx at *
    generalize hYi:condA y.c y.m=Yi at *
    have hYiS:Yi.size=7:=by rw[←hYi];rfl
    have hYiO:Yi.all (·.oneCell')=true:=by rw[←hYi];exact condA_one _ _
    have HTX1:=Lib.hid htx;have HTK:=Lib.hid htk;have HYO:=Lib.hid hYiO;have HYI:=Lib.hid (show (Tryz.prog.info? 27).map (·.size)=some Yi.size by rw[hYiS];exact infC7);have HYIS:=Lib.hid hYiS;have HLDI:=Lib.hid hldi
    have hk0:(0:Int)≤(k:Int):=by omega
    have hk1:(k:Int)<(n:Int):=by omega
    clear htx htk hYi hYiS hYiO hldi hy
    go_upto_region 7 with (first
     | (refine wpList_load_addr rfl 27 _ rfl ⟨b,o+k*7,none⟩ (.agg Yi) rfl HLDI.out ?_)
     | (refine wpList_store_row rfl _ _ _ rfl wr.heap.size Yi rfl rfl _ #[.int .i64 0,.int .i64 0,.string ⟨#[]⟩,.slice none 0 0,.slice none 0 0,.slice none 0 0,.int .i64 0] (heap_alloc_new wr _) HYI.out (by rw[HYIS.out];rfl) HYO.out ?_))
    (try dsimp only[Act.put])
    generalize hw4:World.setRow _ _ _=w4
    have B4:Box1 w4 wr.heap.size 27 Yi:=by rw[←hw4];exact setRow_heap _ _ _ _ _ _ (heap_alloc_new wr _)
    have hb4:Below wr.heap.size wr w4:=by rw[←hw4];exact below_setRow ((Below.refl _ _).alloc (Nat.le_refl _) _) (Nat.le_refl _) _
    have hS4:=HS.out.keep hb4
    have hldc:=cond_row B4 HYIS.out
    have HB4:=Lib.hid hb4;have HS4:=Lib.hid hS4
    have HSZ:=Lib.hid HS.out.s
    clear hw4 hb4 hS4 B4
    go_wp2_with (first
     | (refine wpList_load_addr rfl 27 _ rfl ⟨wr.heap.size,0,none⟩ (.agg Yi) rfl hldc ?_)
     | (go_at_call 71;refine (HTX1.out _ HS4.out.b).mono ?_;rintro e w5 ⟨rfl,hb5⟩)
     | (at_builtin;refine wpList_append_own _ rfl _ _ 24 rfl (w.heap.size+1) 9 i0 (.string ⟨#[]⟩) 1 16 Tryz.underlying24 HI.out.1 HI.out.2.1 HI.out.2.2.1 HI.out.2.2.2 rfl (by decide) _ _ _ rfl ((ownsRow_keep (ownsRow_keep HOWN.out HB4.out) hb5).alloc _) ⟨w5.heap.size,0,none⟩ 1 1 [.string tx] rfl rfl (cell_one_new _ _ _) (by simp[Value.oneCell']) (by unfold maxLen;omega) (by omega) (by have:=HSZ.out;have:=HB4.out.size;have:=hb5.size;simp;omega) ?_;intro v' w6 hown' hgrow _;obtain⟨g',cap',rfl⟩:=ownsRow_succ hown'))
    refine⟨⟨k+1,some ⟨g',0,none⟩,cap',⟨rfl,by go_num,by omega⟩,?_,?_⟩,by simp[intOf];omega⟩
    ·rw[HTK.out,←List.append_assoc,List.map_append];exact Lib.hid hown'
    ·have h4:=HB4.out.size
     have h5:=hb5.size
     have hs:=HSZ.out
     have hlow:Below (w.heap.size+1) w4 w6:=((hb5.mono (by omega)).alloc (by omega) _).grown hgrow (by simp;omega) (fun r e=>ownsRow_block HOWN.out r e)
     exact Lib.hid (HS4.out.low hlow)
   ·obtain rfl:k=n:=by omega
    have ht:(x.L.map fun y=>textC y.c).take k=(x.L.map fun y=>textC y.c):=List.take_of_length_le (by simp;have:=HL.out;omega)
    rw[ht]at HOWN
    clear ht HTX HLD
    go_upto_region 9 with fail
    have hlds:=HTS.out wr w.heap.size ⟨HS.out.x⟩
    have HLDS:=Lib.hid hlds
    clear hlds HTS
    have HTL:=Lib.hid (fun (j a:Nat) (h:x.t.sl[j]? = some a) (W:World)=>run_index_sl W x.t.sl j a h HSL.out.len)
    generalize (b8 x.t.sl).toArray=TL at *
    go_wp2_with (refine wpList_load_addr rfl 30 _ rfl ⟨w.heap.size,4,none⟩ (.agg TL) rfl HLDS.out ?_)
    have HS0:=Lib.hid (show HxS w x.cells.toArray (w.heap.size+1) (2*0) (.slice A' (3+k) c') (.slice none 0 0) (3+k) ((headT x.t++x.L.map fun y=>textC y.c).map .string) (b8 (hexN (x.t.sl.take 0))) wr from⟨HS.out,HOWN.out,World.ownsRow_nil _ _ _ _,HS.out.s⟩)
    go_loopw [7,37] (fun va vi wq=>∃ (j:Nat) (B':Option Addr) (d':Nat),(va=.slice B' (2*j) d'∧vi=.int .i64 j∧j≤16∧(j=0→B'=none))∧Hid (HxS w x.cells.toArray (w.heap.size+1) (2*j) (.slice A' (3+k) c') (.slice B' (2*j) d') (3+k) ((headT x.t++x.L.map fun y=>textC y.c).map .string) (b8 (hexN (x.t.sl.take j))) wq)) (fun _ vi _=>16-(intOf vi).toNat)
    case atStart=>exact⟨0,_,_,⟨rfl,rfl,Nat.zero_le _,fun _=>rfl⟩,HS0⟩
    case round =>
     obtain⟨j,B',d',⟨rfl,rfl,hj,hnil⟩,HQ⟩:=hrel
     clear HS0 HS HOWN HLDS
     by_cases hj16:j<16
     ·obtain⟨a,ha⟩:∃ a,x.t.sl[j]? = some a:=⟨_,List.getElem?_eq_getElem (by rw[HSL.out.len];exact hj16)⟩
      have ht:=HTL.out j a ha
      clear HTL
      have ha256:=HSL.out.lt a (List.mem_of_getElem? ha)
      have hj0:(0:Int)≤(j:Int):=by omega
      have hj1:(j:Int)<16:=by omega
      go_upto_region 13 with fail
      clear ht
      have hb16:a / 16<16:=by omega
      have hm16:a % 16<16:=by omega
      obtain⟨q1,hq1⟩:∃ q1,q1=a / 16:=⟨_,rfl⟩
      obtain⟨q2,hq2⟩:∃ q2,q2=a % 16:=⟨_,rfl⟩
      rw[←hq1]at hb16
      rw[←hq2]at hm16
      obtain⟨d1,hd1⟩:∃ d1,d1=(hexD q1).toNat:=⟨_,rfl⟩
      obtain⟨d2,hd2⟩:∃ d2,d2=(hexD q2).toNat:=⟨_,rfl⟩
      have hi1:=fun W=>run_index_hex W q1 hb16
      have hi2:=fun W=>run_index_hex W q2 hm16
      have HQ1:=Lib.hid (show (a:Int) / 16=(q1:Int) by omega)
      have HQ2:=Lib.hid (show (a:Int) % 16=(q2:Int) by omega)
      have HX1:=Lib.hid (show hexN (x.t.sl.take (j+1))=hexN (x.t.sl.take j)++[d1,d2] by rw[List.take_add_one,ha];show hexN (_++[a])=_;rw[hexN_snoc,hd1,hd2,hq1,hq2])
      clear hq1 hq2 hb16 hm16
      rw[←hd1]at hi1
      rw[←hd2]at hi2
      obtain⟨i8,hi80,hz80,hz81,hz82⟩:=info_parts infoByte
      have HI8:=Lib.hid (And.intro hi80 (And.intro hz80 (And.intro hz81 hz82)))
      have HI1:=Lib.hid hi1;have HI2:=Lib.hid hi2;have HNIL:=Lib.hid hnil;have HA2:=Lib.hid ha256
      clear hi1 hi2 hd1 hd2 hnil ha ha256 hi80 hz80 hz81 hz82
      obtain⟨xs,hxs⟩:∃ xs,xs=b8 (hexN (x.t.sl.take j)):=⟨_,rfl⟩
      obtain⟨ys,hys⟩:∃ ys:List Value,ys=[.int .u8 (d1:Int),.int .u8 (d2:Int)]:=⟨_,rfl⟩
      rw[←hxs]at HQ
      have HXX:=Lib.hid hxs;have HYY:=Lib.hid hys
      have HYL:=Lib.hid (show ys.length=2*1 by rw[hys];rfl)
      have HY1:=Lib.hid (show ∀ u∈ys,u.oneCell'=true by rw[hys];intro u hu;simp at hu;rcases hu with rfl | rfl <;> rfl)
      clear hxs hys
      refine wp_detG (HxG (w.heap.size+1) (2*j) xs ys) HxG.refl HxG.trans 9 (by kernel_rfl) (by kernel_rfl) (by kernel_rfl) (DL [IsV (.slice B' (2*j) d'),IsV (.int .u8 (a:Int)),IsV (.int .u8 (q1:Int)),IsV (.int .u8 (d1:Int)),IsV (.int .u8 (a:Int)),IsV (.int .u8 (q2:Int)),IsV (.int .u8 (d2:Int)),OwnB2 (w.heap.size+1) ys,OwnBy (w.heap.size+1) (2*j+2) (xs++ys)]) (DL.keepG _ _ (by simp only[KeepAllG];repeat' (first | apply And.intro | exact keepsG_is _ _ | exact fun v _ _ h hg=>hg.r2 v h | exact (fun v _ _ ⟨g,e,h⟩ hg=>⟨g,e,hg.r3 v h⟩) | exact trivial))) (HxS w x.cells.toArray (w.heap.size+1) (2*j) (.slice A' (3+k) c') (.slice B' (2*j) d') (3+k) ((headT x.t++x.L.map fun y=>textC y.c).map .string) xs) (HQ.out.low (ys:=ys) (HxG.of (Below.drew (Below.refl _ _)) HQ.out.s)) (fun _ _ h hb=>h.low hb) ?_ ?_
      ·dsimp only[List.take_succ_cons,List.take_zero,DetG]
       refine⟨fun vals W hS hd=>?_,fun vals W hS hd=>?_,fun vals W hS hd=>?_,fun vals W hS hd=>?_,fun vals W hS hd=>?_,fun vals W hS hd=>?_,fun vals W hS hd=>?_,fun vals W hS hd=>?_,fun vals W hS hd=>?_,trivial⟩
       ·(try simp only[DepsL,DL,IsV,List.getD_cons_zero,List.getD_cons_succ,Region.binds,and_true,true_and]at hd)
        simp only[putL,putF,Act.put]
        (try simp only[hd])
        clear hd
        go_wp2
        exact⟨rfl,rfl,rfl,HxG.refl _⟩
       ·(try simp only[DepsL,DL,IsV,List.getD_cons_zero,List.getD_cons_succ,Region.binds,and_true,true_and]at hd)
        simp only[putL,putF,Act.put]
        (try simp only[hd])
        clear hd
        go_wp2
        exact⟨rfl,rfl,rfl,HxG.refl _⟩
       ·(try simp only[DepsL,DL,IsV,List.getD_cons_zero,List.getD_cons_succ,Region.binds,and_true,true_and]at hd)
        simp only[putL,putF,Act.put]
        (try simp only[hd])
        clear hd
        go_wp2
        exact⟨rfl,(congrArg (Value.int .u8) HQ1.out:Value.int .u8 _=Value.int .u8 _),rfl,HxG.refl _⟩
       ·(try simp only[DepsL,DL,IsV,List.getD_cons_zero,List.getD_cons_succ,Region.binds,and_true,true_and]at hd)
        simp only[putL,putF,Act.put]
        (try simp only[hd])
        clear hd
        have hix:=HI1.out W
        go_wp2
        exact⟨rfl,rfl,rfl,HxG.refl _⟩
       ·(try simp only[DepsL,DL,IsV,List.getD_cons_zero,List.getD_cons_succ,Region.binds,and_true,true_and]at hd)
        simp only[putL,putF,Act.put]
        (try simp only[hd])
        clear hd
        go_wp2
        exact⟨rfl,rfl,rfl,HxG.refl _⟩
       ·(try simp only[DepsL,DL,IsV,List.getD_cons_zero,List.getD_cons_succ,Region.binds,and_true,true_and]at hd)
        simp only[putL,putF,Act.put]
        (try simp only[hd])
        clear hd
        have h256:=HA2.out
        go_wp2
        exact⟨rfl,(congrArg (Value.int .u8) HQ2.out:Value.int .u8 _=Value.int .u8 _),rfl,HxG.refl _⟩
       ·(try simp only[DepsL,DL,IsV,List.getD_cons_zero,List.getD_cons_succ,Region.binds,and_true,true_and]at hd)
        simp only[putL,putF,Act.put]
        (try simp only[hd])
        clear hd
        have hix:=HI2.out W
        go_wp2
        exact⟨rfl,rfl,rfl,HxG.refl _⟩
       ·(try simp only[DepsL,DL,IsV,List.getD_cons_zero,List.getD_cons_succ,Region.binds,and_true,true_and]at hd)
        simp only[putL,putF,Act.put]
        (try simp only[hd])
        clear hd
        have hsW:=hS.s
        go_wp2
        refine⟨rfl,⟨_,rfl,?_⟩,rfl,HxG.of (below_alloc _ _) hsW⟩
        rw[HYY.out]
        exact World.ownsRow_lit (base:=w.heap.size+1) (e:=5) (size:=1) W #[.int .u8 (d1:Int),.int .u8 (d2:Int)] 2 hsW (by unfold maxLen;omega) rfl
       ·(try simp only[DepsL,DL,IsV,List.getD_cons_zero,List.getD_cons_succ,Region.binds,and_true,true_and]at hd)
        obtain⟨e0,g7,e7,ho7⟩:=hd
        rw[e7]at ho7
        simp only[putL,putF,Act.put]
        (try simp only[e0,e7])
        have hsW:=hS.s
        have hr7:=Reads.of_own ho7
        obtain⟨gg,oo,eg,hcg⟩:=hr7.2 (by omega)
        injection eg with eg
        injection eg with eg1 eg2
        subst eg1;subst eg2
        have hadd:∀ j,(⟨g7,0,none⟩:Addr).add j=⟨g7,0+j,none⟩:=fun j=>by unfold Addr.add;split <;> simp_all
        have HA7:=Lib.hid (fun j u (hu:ys[j]? = some u)=>(show W.cell? ((⟨g7,0,none⟩:Addr).add j)=some u by rw[hadd];exact hcg j u hu))
        have HBY:=Lib.hid hS.by_
        clear hr7 hcg hadd ho7 e7 e0
        go_wp2_with (at_builtin;refine wpList_append_ownG rfl _ _ 105 rfl (w.heap.size+1) 5 i8 (.int .u8 0) 1 1 Tryz.underlying105 HI8.out.1 HI8.out.2.1 HI8.out.2.2.1 HI8.out.2.2.2 rfl (by decide) (.slice B' (2*j) d') (2*j) xs rfl HBY.out ⟨g7,0,none⟩ 2 2 ys rfl HYL.out HA7.out HY1.out (by unfold maxLen;omega) (by omega) hsW ?_;intro v6 w6 hown6 hgrow6 hstay6)
        refine⟨rfl,hown6,rfl,⟨Below.grown (Below.refl _ _) hgrow6 hsW (fun r e=>ownsRow_block HBY.out r e),fun v h=>hstay6 v _ xs h (.inl (Nat.le_refl _)),fun v h=>hstay6 v _ _ h (.inr (List.prefix_refl _)),fun v h=>?_,fun v i zs h=>own_grown h hgrow6 (own_type_ne25 h HBY.out (by decide))⟩⟩
        by_cases h2:2≤2*j
        ·exact hstay6 v 2 ys h (.inl h2)
        ·have hb:B'=none:=HNIL.out (by omega)
         rw[hb]at hgrow6
         refine own_grown h hgrow6 ?_
         cases hv:v.ownBlock with
         | none=>exact .inl rfl
         | some r=>exact .inr (by simp[Value.ownBlock])
      ·intro vals w9 hS9 hD9
       have e8:w9.ownsRow (w.heap.size+1) 5 1 (vals 8) (2*j+2) (xs++ys):=hD9 8 (by omega)
       obtain⟨g6,c6,e6⟩:=ownsRow_succ e8
       rw[e6]at e8
       simp only[putL,putF,Act.put]
       simp only[e6,Nat.zero_add,Nat.reduceAdd]
       clear hD9 e6
       have HS9:=Lib.hid hS9;have HE8:=Lib.hid e8
       clear hS9 e8
       go_wp2
       refine⟨⟨j+1,some ⟨g6,0,none⟩,c6,⟨rfl,by go_num,by omega,fun h=>by omega⟩,Lib.hid ⟨HS9.out.t,HS9.out.st,?_,HS9.out.s⟩⟩,by simp[intOf];omega⟩
       have e:=HE8.out
       rw[HX1.out]
       have e2:b8 (hexN (x.t.sl.take j)++[d1,d2])=xs++ys:=by rw[HXX.out,HYY.out];unfold b8;rw[List.map_append];rfl
       rw[e2]
       exact e
     ·obtain rfl:j=16:=by omega
      have ht16:x.t.sl.take 16=x.t.sl:=List.take_of_length_le (by rw[HSL.out.len];omega)
      rw[ht16]at HQ
      clear ht16
      have hcv:=run_text wr B' 32 d' (hexN x.t.sl) (by rw[hexN_len,HSL.out.len]) (hexN_lt _) (by omega) (Reads.of_own HQ.out.by_)
      rw[toN_hexN]at hcv
      obtain⟨hx,hhx⟩:∃ hx,hx=hexB x.t.sl:=⟨_,rfl⟩
      rw[←hhx]at hcv
      obtain⟨ws,hws⟩:∃ ws,ws=headT x.t++x.L.map fun y=>textC y.c:=⟨_,rfl⟩
      rw[←hws]at HQ
      have hV3:V=sepT 59 (ws++[hx]):=by rw[HVV.out,hws,hhx]
      have hJ:=fun (g cap:Nat) (W:World) (h:W.ownsRow (w.heap.size+1) 9 1 (.slice (some ⟨g,0,none⟩) (3+k+1) cap) (3+k+1) ((ws++[hx]).map .string))=>sep_any 59 (some ⟨g,0,none⟩) (3+k+1) cap (ws++[hx]) W (w.heap.size+1) h (by
       have e:(Lib.join ((ws++[hx]).map (·.data.toList)) [59]).length=V.size:=by rw[hV3,Lib.size_eq];rfl
       rw[e];exact hsz2) (by omega)
      rw[←hV3]at hJ
      have HJ:=Lib.hid hJ;have HST:=Lib.hid HQ.out.st;have HTT:=Lib.hid HQ.out.t
      have hsz5:=HQ.out.s
      clear hJ hV3 hws hhx HVV hsz2 HQ
      go_wp2_with (first
       | (at_builtin;refine wpList_append_own _ rfl _ _ 24 rfl (w.heap.size+1) 9 i0 (.string ⟨#[]⟩) 1 16 Tryz.underlying24 HI.out.1 HI.out.2.1 HI.out.2.2.1 HI.out.2.2.2 rfl (by decide) _ _ _ rfl (HST.out.alloc _) ⟨wr.heap.size,0,none⟩ 1 1 [.string hx] rfl rfl (cell_one_new _ _ _) (by simp[Value.oneCell']) (by unfold maxLen;omega) (by omega) (by simp;omega) ?_;intro v' w6 hown' hgrow _;obtain⟨g',cap',rfl⟩:=ownsRow_succ hown';have hown2:w6.ownsRow (w.heap.size+1) 9 1 (.slice (some ⟨g',0,none⟩) (3+k+1) cap') (3+k+1) ((ws++[hx]).map .string):=(by rw[List.map_append];exact hown'))
       | (go_at_call 72;refine (HJ.out _ _ _ hown2).mono ?_;rintro e w7 ⟨rfl,hb7⟩))
      go_ret2
      have hlow:Below w.heap.size wr w6:=((Below.refl w.heap.size wr).alloc (by omega) _).grown hgrow (by simp;omega) (fun r e=>by have:=ownsRow_block HST.out r e;omega)
      exact⟨rfl,bstep (HTT.out.b.trans hlow) hb7⟩
def badForm:List PanicEntry:=[{ v:=.iface 36 (.int .i64 3),recovered:=false }]
theorem must_yes (w:World):Calls Tryz.prog 76 #[.bool true] w fun e w'=>e=.returned (.tuple #[])∧w'=w:=by
 go_enter Tryz.func76,Tryz.ntmps76
 go_wp2
 go_end0
 exact⟨rfl,rfl⟩
theorem must_no (w:World):Calls Tryz.prog 76 #[.bool false] w fun e w'=>e=.panicked badForm∧w'=w:=by
 go_enter Tryz.func76,Tryz.ntmps76
 go_wp2
 exact⟨rfl,rfl,rfl⟩
theorem atoiAll_range {l:List UInt8} {v:Int} (h:Lib.atoiAll l=.ok v) : -9223372036854775808≤v∧v≤9223372036854775807:=by
 unfold Lib.atoiAll at h
 cases l with
 | nil=>cases h
 | cons c r =>
  dsimp only at h
  cases hp:Lib.parseMag (if c.toNat=43∨c.toNat=45 then r else c :: r) with
  | «syntax»=>rw[hp]at h;cases h
  | range=>rw[hp]at h;cases h
  | ok u =>
   rw[hp]at h
   dsimp only at h
   split at h
   ·cases h
   ·split at h
    ·cases h
    ·injection h with h
     subst h
     split <;> omega
theorem atoiN_range (s:ByteArray) : -9223372036854775808≤atoiN s∧atoiN s≤9223372036854775807:=by
 unfold atoiN
 cases h:Lib.atoiAll s.data.toList with
 | «syntax»=>show (-9223372036854775808:Int)≤0∧(0:Int)≤9223372036854775807;omega
 | range=>show -9223372036854775808≤Lib.atoiSat s.data.toList∧Lib.atoiSat s.data.toList≤_;unfold Lib.atoiSat;split <;> omega
 | ok v=>exact atoiAll_range h
theorem number25_yes (s:ByteArray) (w:World) (hs:s.size≤1000000) (hE:Errs w) (hTb:Tab w) (h:numOk s=true):Calls Tryz.prog 77 #[.string s] w (Ret w (.int .i64 (atoiN s))):=by
 have hat:=fun W hE=>atoi_any s W hs hE
 have hit:=fun (W:World) (hb:Below w.heap.size w W)=>itoa_any (atoiN s) W (atoiN_range s).1 (atoiN_range s).2 (hTb.keep hb)
 unfold numOk at h
 simp only[Bool.and_eq_true,decide_eq_true_eq,Bool.not_eq_true']at h
 obtain⟨h1,h2⟩:=h
 rw[h2]at hit
 rw[h1]at hat
 generalize atoiN s=N at *
 have HAT:=Lib.hid hat;have HIT:=Lib.hid hit;have HE:=Lib.hid hE
 clear hat hit hE h1 h2 hTb
 go_enter Tryz.func77,Tryz.ntmps77
 go_wp2_with (first | ((go_at_call 137;refine (HAT.out w HE.out).mono ?_;rintro e w2 ⟨⟨ev,rfl,hev⟩,hb2⟩);obtain rfl:ev=.nilIface:=(by rcases hev with ⟨h,_⟩ | ⟨_,h⟩;exact h;cases h)) | (go_at_call 57;refine (HIT.out _ hb2).mono ?_;rintro e w3 ⟨rfl,hb3⟩) | (go_at_call 76;refine (must_yes _).mono ?_;rintro e w4 ⟨rfl,rfl⟩))
 go_ret
 exact⟨rfl,bstep hb2 hb3⟩
theorem number25_no (s:ByteArray) (w:World) (hs:s.size≤1000000) (hE:Errs w) (hTb:Tab w) (h:numOk s=false):Calls Tryz.prog 77 #[.string s] w fun e w'=>e=.panicked badForm∧Below w.heap.size w w':=by
 have hat:=fun W hE=>atoi_any s W hs hE
 have hit:=fun (W:World) (hb:Below w.heap.size w W)=>itoa_any (atoiN s) W (atoiN_range s).1 (atoiN_range s).2 (hTb.keep hb)
 unfold numOk at h
 cases h1:atoiBad s
 ·rw[h1]at h hat
  have h2:¬ itoaB (atoiN s)=s:=by simpa using h
  have h4:¬ (itoaB (atoiN s)).toList=s.toList:=fun e=>h2 (bytes_ext (by rw[Lib.toList_data,Lib.toList_data]at e;exact e))
  have h3:((itoaB (atoiN s)).toList==s.toList)=false:=beq_eq_false_iff_ne.2 h4
  generalize itoaB (atoiN s)=t at *
  generalize atoiN s=N at *
  have HAT:=Lib.hid hat;have HIT:=Lib.hid hit;have HE:=Lib.hid hE
  clear hat hit hE h1 h2 h hTb
  go_enter Tryz.func77,Tryz.ntmps77
  go_wp2_with (first | ((go_at_call 137;refine (HAT.out w HE.out).mono ?_;rintro e w2 ⟨⟨ev,rfl,hev⟩,hb2⟩);obtain rfl:ev=.nilIface:=(by rcases hev with ⟨h,_⟩ | ⟨_,h⟩;exact h;cases h)) | (go_at_call 57;refine (HIT.out _ hb2).mono ?_;rintro e w3 ⟨rfl,hb3⟩) | (go_at_call 76;refine (must_no _).mono ?_;rintro e w4 ⟨rfl,rfl⟩))
  exact⟨rfl,rfl,bstep hb2 hb3⟩
 ·rw[h1]at hat
  generalize atoiN s=N at *
  have HAT:=Lib.hid hat;have HE:=Lib.hid hE
  clear hat hit hE h1 h hTb
  go_enter Tryz.func77,Tryz.ntmps77
  go_wp2_with (first | ((go_at_call 137;refine (HAT.out w HE.out).mono ?_;rintro e w2 ⟨⟨ev,rfl,hev⟩,hb2⟩);obtain⟨te,pe,rfl⟩:∃ te pe,ev=.iface te (.pointer pe):=(by rcases hev with ⟨_,h⟩ | ⟨h,_⟩;cases h;exact h)) | (go_at_call 76;refine (must_no _).mono ?_;rintro e w4 ⟨rfl,rfl⟩))
  exact⟨rfl,rfl,hb2⟩
theorem catch_idle25 (p q:Addr) (w:World) :
  CallsD Tryz.prog 74 #[.pointer (some p),.pointer (some q)] .returning w fun e u' w'=>e=.returned (.tuple #[])∧u'=.returning∧w'=w:=by
 refine callsD_of_wpS Tryz.func74 rfl fun c₀ cs hu=>?_
 apply wpS_seq
 apply wpS_region
 simp[wpOpsS,go_sem,recoverD,hu,Tryz.ntmps74,Exit.thenS]
 apply wpS_seq
 apply wpS_region
 simp[wpOpsS,go_sem,Exit.thenS]
 refine wpS_cond (t:=false) (by simp[Act.eval,Array.replicate]) ?_
 simp only[Bool.false_eq_true,if_false]
 refine wpS_of_wp (wp_skip ?_)
 cases c₀
 simp_all [bodyPostS,results,Tryz.results74]
theorem catch_panics25 (g h:Nat) (X:Array Value) (e:Int) (w:World) (hx:Box1 w g 32 X) (hs:X.size=20) (he:Box1 w h 36 #[.int .i64 e]) (hgh:g≠h) :
  CallsD Tryz.prog 74 #[.pointer (some ⟨g,0,none⟩),.pointer (some ⟨h,0,none⟩)] (.panicking badForm) w fun e u' w' =>
   e=.returned (.tuple #[])∧u'=.panicking [{ v:=.iface 36 (.int .i64 3),recovered:=true }]∧w'=(w.drew.setRow g (#[.int .i64 0,.int .i64 0,.string ⟨#[]⟩,.slice none 0 0,.int .u8 0,.int .u8 0,.int .u8 0,.int .u8 0,.int .u8 0,.int .u8 0,.int .u8 0,.int .u8 0,.int .u8 0,.int .u8 0,.int .u8 0,.int .u8 0,.int .u8 0,.int .u8 0,.int .u8 0,.int .u8 0]:Array Value)).setCell ⟨h,0,none⟩ (.int .i64 3):=by
 unfold badForm
 refine callsD_of_wpS Tryz.func74 rfl fun c₀ cs hu=>?_
 apply wpS_seq
 apply wpS_region
 simp[wpOpsS,go_sem,recoverD,hu,Tryz.ntmps74,Exit.thenS]
 apply wpS_seq
 apply wpS_region
 simp[wpOpsS,go_sem,Exit.thenS]
 refine wpS_cond (t:=true) (by simp[Act.eval,Array.replicate]) ?_
 simp only[if_true]
 refine wpS_of_wp ?_
 have hta:∀ w:World,(Instr.typeAssert (.iface 36 (.int .i64 3)) 20 36 false).run Tryz.prog w=.ok (.int .i64 3) w:=fun _=>rfl
 have hone:((#[.int .i64 0,.int .i64 0,.string ⟨#[]⟩,.slice none 0 0,.int .u8 0,.int .u8 0,.int .u8 0,.int .u8 0,.int .u8 0,.int .u8 0,.int .u8 0,.int .u8 0,.int .u8 0,.int .u8 0,.int .u8 0,.int .u8 0,.int .u8 0,.int .u8 0,.int .u8 0,.int .u8 0]:Array Value):Array Value).all (·.oneCell')=true:=tok_one 0 0 ⟨#[]⟩ none 0 0 zeroS
 have hx1:w.drew.heap[g]? = some (.cells X 32 (0,0)):=hx
 have he1:Box1 (w.drew.setRow g (#[.int .i64 0,.int .i64 0,.string ⟨#[]⟩,.slice none 0 0,.int .u8 0,.int .u8 0,.int .u8 0,.int .u8 0,.int .u8 0,.int .u8 0,.int .u8 0,.int .u8 0,.int .u8 0,.int .u8 0,.int .u8 0,.int .u8 0,.int .u8 0,.int .u8 0,.int .u8 0,.int .u8 0]:Array Value)) h 36 #[.int .i64 e]:=(setRow_other _ _ _ _ (fun h2=>hgh h2.symm)).trans he
 have c1:=he1.cell (k:=0) rfl
 have f1:=frozen_of_row _ _ 0 _ _ he1
 change Code.wp _ _ _ { tmps:=#[.pointer (some ⟨g,0,none⟩),.pointer (some ⟨h,0,none⟩),.iface 36 (.int .i64 3),.iface 36 (.int .i64 3),.iface 36 (.int .i64 3),.bool true,undef,undef,undef],defers:=[] } _
 have HX1:=Lib.hid hx1
 clear hx hx1 he he1
 refine wp_region_noPanic ?_
 refine wp_region_any (by kernel_rfl) ?_
 change wpAny _ _ _ _ _ _ _ (World.drew _)
 refine wpAny_take (i:=0) (v:=.agg (#[.int .i64 0,.int .i64 0,.string ⟨#[]⟩,.slice none 0 0,.int .u8 0,.int .u8 0,.int .u8 0,.int .u8 0,.int .u8 0,.int .u8 0,.int .u8 0,.int .u8 0,.int .u8 0,.int .u8 0,.int .u8 0,.int .u8 0,.int .u8 0,.int .u8 0,.int .u8 0,.int .u8 0]:Array Value)) rfl (by kernel_rfl) (by kernel_rfl) (by kernel_rfl) (fun _ _ _ h=>h) (Or.inl ⟨by rfl,?b0⟩) ?r0
 case b0=>(intro w;go_simp;try with_reducible rfl)
 (try simp only[Act.put,List.setIfInBounds_toArray,List.set_cons_zero,List.set_cons_succ])
 refine wpAny_take (i:=1) (v:=.iface 36 (.int .i64 3)) rfl (by kernel_rfl) (by kernel_rfl) (by kernel_rfl) (fun _ _ _ h=>h) (Or.inl ⟨by rfl,?b1⟩) ?r1
 case b1=>(intro w;go_simp;try with_reducible rfl)
 (try simp only[Act.put,List.setIfInBounds_toArray,List.set_cons_zero,List.set_cons_succ])
 refine wpAny_take (i:=2) (v:=.int .i64 3) rfl (by kernel_rfl) (by kernel_rfl) (by kernel_rfl) (fun _ _ _ h=>h) (Or.inl ⟨by rfl,?b2⟩) ?r2
 case b2=>(intro w;go_simp;try with_reducible rfl)
 (try simp only[Act.put,List.setIfInBounds_toArray,List.set_cons_zero,List.set_cons_succ])
 refine wpAny_ready (rs:=[3]) (by kernel_rfl) (by simp) ?_
 refine AllReady.cons (o:=_) rfl (fun K hK=>?_) AllReady.nil
 rw[if_pos (by rfl)]
 refine wp_store_row 32 _ _ (by rfl) g (#[.int .i64 0,.int .i64 0,.string ⟨#[]⟩,.slice none 0 0,.int .u8 0,.int .u8 0,.int .u8 0,.int .u8 0,.int .u8 0,.int .u8 0,.int .u8 0,.int .u8 0,.int .u8 0,.int .u8 0,.int .u8 0,.int .u8 0,.int .u8 0,.int .u8 0,.int .u8 0,.int .u8 0]:Array Value) (by rfl) (by rfl) _ X HX1.out infTok (by rw[hs];rfl) hone ?_
 refine hK _ _ ?_
 clear hK K
 (try simp only[Act.put,List.setIfInBounds_toArray,List.set_cons_zero,List.set_cons_succ])
 refine wpAny_ready (rs:=[4]) (by kernel_rfl) (by simp) ?_
 refine AllReady.cons (o:=_) rfl (fun K hK=>?_) AllReady.nil
 go_simp
 refine hK _ _ ?_
 clear hK K
 refine wpAny_done (by kernel_rfl) ?_ _
 cases c₀
 simp_all [NoPanic,bodyPostS,results,Tryz.results74]
structure PaS (w:World) (X:Array Value) (e:Int) (W:World):Prop where
 t:Box1 W w.heap.size 32 X
 e:Box1 W (w.heap.size+1) 36 #[.int .i64 e]
 b:Below w.heap.size w W
theorem PaS.keep {w W W':World} {X:Array Value} {e:Int} {B:Nat} (h:PaS w X e W) (hb:Below B W W') (hB:w.heap.size+2≤B):PaS w X e W' :=
 ⟨(hb.block _ (by omega)).trans h.t,(hb.block _ (by omega)).trans h.e,h.b.trans (hb.mono (by omega))⟩
def parseV (s:ByteArray):TokV × Int:=if 131072<s.size then (zeroT,2) else match readT s with
 | some t=>(t,0)
 | none=>(zeroT,3)
def doorP (w:World):List Deferred:=[{ target:=.fn (.func 74) #[.pointer (some ⟨w.heap.size,0,none⟩),.pointer (some ⟨w.heap.size+1,0,none⟩)],args:=#[] }]
theorem parse_res {w W:World} {X:Array Value} {e:Int} {tmps:Array Value} (h:PaS w X e W) (hs:X.size=20) (h2:tmps.getD 2 undef=.pointer (some ⟨w.heap.size,0,none⟩)) (h3:tmps.getD 3 undef=.pointer (some ⟨w.heap.size+1,0,none⟩)) :
  (results Tryz.f37 tmps).run Tryz.prog W=.ok (.tuple #[.agg X,.int .i64 e]) W :=
 results_cells2 rfl _ _ _ _ _ _ h2 h3 (tok_row h.t hs) (errno_load h.e)
theorem parse_dies {w W:World} {X:Array Value} {e:Int} {tmps:Array Value} (h:PaS w X e W) (hs:X.size=20) (h2:tmps.getD 2 undef=.pointer (some ⟨w.heap.size,0,none⟩)) (h3:tmps.getD 3 undef=.pointer (some ⟨w.heap.size+1,0,none⟩)) :
  bodyPostD Tryz.prog Tryz.f37 (TokPost zeroT 3 w) (.panic badForm) { tmps:=tmps,defers:=doorP w } W:=by
 show Leaves _ _ _ _ _ _ _
 unfold doorP
 refine leaves_cons (f:=74) (args:=#[.pointer (some ⟨w.heap.size,0,none⟩),.pointer (some ⟨w.heap.size+1,0,none⟩)]) (by simp) (by simp[go_sem]) ?_
 refine (catch_panics25 w.heap.size (w.heap.size+1) X e W h.t hs h.e (by omega)).mono ?_
 rintro e u' w'' ⟨rfl,rfl,rfl⟩
 have hb:Below w.heap.size w ((W.drew.setRow w.heap.size (#[.int .i64 0,.int .i64 0,.string ⟨#[]⟩,.slice none 0 0,.int .u8 0,.int .u8 0,.int .u8 0,.int .u8 0,.int .u8 0,.int .u8 0,.int .u8 0,.int .u8 0,.int .u8 0,.int .u8 0,.int .u8 0,.int .u8 0,.int .u8 0,.int .u8 0,.int .u8 0,.int .u8 0]:Array Value)).setCell ⟨w.heap.size+1,0,none⟩ (.int .i64 3)):=(below_setRow (Below.drew h.b) (Nat.le_refl _) _).setCell (p:=⟨w.heap.size+1,0,none⟩) (by dsimp only;omega) _
 have hP:PaS w (#[.int .i64 0,.int .i64 0,.string ⟨#[]⟩,.slice none 0 0,.int .u8 0,.int .u8 0,.int .u8 0,.int .u8 0,.int .u8 0,.int .u8 0,.int .u8 0,.int .u8 0,.int .u8 0,.int .u8 0,.int .u8 0,.int .u8 0,.int .u8 0,.int .u8 0,.int .u8 0,.int .u8 0]:Array Value) 3 ((W.drew.setRow w.heap.size (#[.int .i64 0,.int .i64 0,.string ⟨#[]⟩,.slice none 0 0,.int .u8 0,.int .u8 0,.int .u8 0,.int .u8 0,.int .u8 0,.int .u8 0,.int .u8 0,.int .u8 0,.int .u8 0,.int .u8 0,.int .u8 0,.int .u8 0,.int .u8 0,.int .u8 0,.int .u8 0,.int .u8 0]:Array Value)).setCell ⟨w.heap.size+1,0,none⟩ (.int .i64 3)):=by
  refine⟨(heap_setCell_other _ _ _ _ (by dsimp only;omega)).trans (setRow_heap _ _ _ _ _ _ h.t),?_,hb⟩
  have he:Box1 (W.drew.setRow w.heap.size (#[.int .i64 0,.int .i64 0,.string ⟨#[]⟩,.slice none 0 0,.int .u8 0,.int .u8 0,.int .u8 0,.int .u8 0,.int .u8 0,.int .u8 0,.int .u8 0,.int .u8 0,.int .u8 0,.int .u8 0,.int .u8 0,.int .u8 0,.int .u8 0,.int .u8 0,.int .u8 0,.int .u8 0]:Array Value)) (w.heap.size+1) 36 #[.int .i64 e]:=(setRow_other _ _ _ _ (by omega)).trans h.e
  exact heap_setCell_same _ _ _ _ _ _ he
 generalize (W.drew.setRow w.heap.size (#[.int .i64 0,.int .i64 0,.string ⟨#[]⟩,.slice none 0 0,.int .u8 0,.int .u8 0,.int .u8 0,.int .u8 0,.int .u8 0,.int .u8 0,.int .u8 0,.int .u8 0,.int .u8 0,.int .u8 0,.int .u8 0,.int .u8 0,.int .u8 0,.int .u8 0,.int .u8 0,.int .u8 0]:Array Value)).setCell ⟨w.heap.size+1,0,none⟩ (.int .i64 3)=W9 at *
 have hr:=parse_res hP rfl h2 h3
 simp[Leaves,settle,hr]
 exact⟨hb,zeroM,rfl,zeroM_reads _,rfl⟩
theorem parse_ret {w W:World} {x:TokM} {tmps:Array Value} (h:PaS w x.cells.toArray 0 W) (hR:TokReads W x) (h2:tmps.getD 2 undef=.pointer (some ⟨w.heap.size,0,none⟩)) (h3:tmps.getD 3 undef=.pointer (some ⟨w.heap.size+1,0,none⟩)) :
  bodyPostD Tryz.prog Tryz.f37 (TokPost x.t 0 w) .ret { tmps:=tmps,defers:=doorP w } W:=by
 show Leaves _ _ _ _ _ _ _
 unfold doorP
 refine leaves_cons (f:=74) (args:=#[.pointer (some ⟨w.heap.size,0,none⟩),.pointer (some ⟨w.heap.size+1,0,none⟩)]) (by simp) (by simp[go_sem]) ?_
 refine (catch_idle25 ⟨w.heap.size,0,none⟩ ⟨w.heap.size+1,0,none⟩ W).mono ?_
 rintro e u' w'' ⟨rfl,rfl,rfl⟩
 have hr:=parse_res h (by rw[List.size_toArray];exact hR.size) h2 h3
 simp[Leaves,settle,hr]
 exact⟨h.b,x,rfl,hR,rfl⟩
theorem PaS.sete {w W:World} {X:Array Value} {e v:Int} (h:PaS w X e W):PaS w X v (W.setCell ⟨w.heap.size+1,0,none⟩ (.int .i64 v)) :=
 ⟨(heap_setCell_other _ _ _ _ (by dsimp only;omega)).trans h.t,heap_setCell_same _ _ _ _ _ _ h.e,h.b.setCell (p:=⟨w.heap.size+1,0,none⟩) (by dsimp only;omega) _⟩
end Go.Proofs.YtlkbkclnbppigaaGreatDoor
