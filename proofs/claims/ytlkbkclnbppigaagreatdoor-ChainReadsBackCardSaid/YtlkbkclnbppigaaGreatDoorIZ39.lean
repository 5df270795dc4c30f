/- What signed addresses have in common: chain.Identity, the specification's Identity. -/
import Derived.Test.YtlkbkclnbppigaaGreatDoorIZ35
set_option maxHeartbeats 8000000
namespace Go.Proofs.YtlkbkclnbppigaaGreatDoor
open Go.RowKit Go.Sort
set_option linter.unusedVariables false
set_option linter.unusedSimpArgs false
set_option maxRecDepth 100000
def Row3 (a b c:ByteArray):Value→World→Prop:=fun v W=>∃ g,v=.slice (some ⟨g,0,none⟩) 3 3∧Reads W 1 (some ⟨g,0,none⟩) 3 ([a,b,c].map .string)
theorem keeps_row3 (a b c:ByteArray):Keeps (Row3 a b c):=fun _ _ _ ⟨g,e,hr⟩ hb=>⟨g,e,hr.keep hb⟩
theorem reads3 (w:World) (a b c:ByteArray) (g:Nat) (hg:g=w.heap.size):Reads (w.alloc (.cells #[.string a,.string b,.string c] 9)) 1 (some ⟨g,0,none⟩) 3 ([a,b,c].map .string):=cells3 w 9 (.string a) (.string b) (.string c) g hg
structure IdS (w:World) (X Z:Array Value) (W:World):Prop where
 x:Box1 W w.heap.size 32 X
 z:Box1 W (w.heap.size+1) 51 Z
 b:Below w.heap.size w W
 s:w.heap.size+1<W.heap.size
theorem IdS.keep {w W W':World} {X Z:Array Value} (h:IdS w X Z W) (hb:Below W.heap.size W W'):IdS w X Z W':=⟨h.x.keep hb,h.z.keep hb,bstep h.b hb,Nat.lt_of_lt_of_le h.s hb.size⟩
theorem infDig:(Tryz.prog.info? 51).map (·.size)=some 16:=by kernel_rfl
theorem identity_any (x:TokM) (w:World) (hc:0≤x.t.cust∧x.t.cust≤9223372036854775807) (hs:0≤x.t.ser∧x.t.ser≤9223372036854775807) (hid:x.t.id.size≤1000000) (hl:SealOk x.t.sl) (hK:Ks w) (hT:Tab w):Calls Tryz.prog 22 #[x.val] w (Ret w (.agg (b8 (identT x.t)).toArray)):=by
 have hO:=fun (g:Nat) (W:World) (hr:Reads W 1 (some ⟨g,0,none⟩) 3 ([itoaB x.t.cust,itoaB x.t.ser,x.t.id].map .string)) (hb:Below w.heap.size w W)=>of_any 25 (by decide) (some ⟨g,0,none⟩) 3 3 [itoaB x.t.cust,itoaB x.t.ser,x.t.id] W hr (by omega) (by
  intro s h
  have h1:=itoa_size x.t.cust (by omega) (by omega)
  have h2:=itoa_size x.t.ser (by omega) (by omega)
  simp only[List.mem_cons,List.not_mem_nil,or_false]at h
  rcases h with rfl | rfl | rfl
  ·omega
  ·omega
  ·exact hid) (hK.keep hb)
 have hD:=fun (W:World) (hb:Below w.heap.size w W)=>itoa_any x.t.cust W (by omega) (by omega) (hT.keep hb)
 have hT:=fun (W:World) (hb:Below w.heap.size w W)=>itoa_any x.t.ser W (by omega) (by omega) (hT.keep hb)
 have hDS:(b8 (Sha.ofD 25 ([itoaB x.t.cust,itoaB x.t.ser,x.t.id].map nb))).toArray.size=16:=by rw[List.size_toArray,b8_len];exact ofD_len _ _
 have hDO:(b8 (Sha.ofD 25 ([itoaB x.t.cust,itoaB x.t.ser,x.t.id].map nb))).toArray.all (·.oneCell')=true:=b8_all _
 have hnx:Sha.ofD 25 ([itoaB x.t.cust,itoaB x.t.ser,x.t.id].map nb)=identT x.t:=rfl
 rw[hnx]at hDS hDO hO
 generalize (b8 (identT x.t)).toArray=DG at *
 have hx0:x.cells.toArray[0]? = some (.int .i64 x.t.cust):=rfl
 have hx1:x.cells.toArray[1]? = some (.int .i64 x.t.ser):=rfl
 have hx2:x.cells.toArray[2]? = some (.string x.t.id):=rfl
 unfold TokM.val
 generalize x.cells.toArray=X at *
 generalize itoaB x.t.cust=sa at *
 generalize itoaB x.t.ser=sb at *
 generalize x.t.id=sc at *
 generalize x.t.cust=na at *
 generalize x.t.ser=nb at *
 have HO:=Lib.hid hO;have HD:=Lib.hid hD;have HT:=Lib.hid hT;have HDS:=Lib.hid hDS;have HDO:=Lib.hid hDO;have HX0:=Lib.hid hx0;have HX1:=Lib.hid hx1;have HX2:=Lib.hid hx2
 have HDI:=Lib.hid (show (Tryz.prog.info? 51).map (·.size)=some DG.size by rw[hDS];exact infDig)
 clear hO hD hT hDS hDO hx0 hx1 hx2 hnx hK hl hc hs hid
 go_enter Tryz.func22,Tryz.ntmps22
 go_upto_region 1 with fail
 generalize hw0:World.alloc _ _=w0
 obtain⟨ZS,hZS⟩:∃ ZS:Array Value,ZS=(b8 (List.replicate 16 0)).toArray:=⟨_,rfl⟩
 have hS0:IdS w X ZS w0:=by
  rw[←hw0,hZS]
  exact⟨(alloc2_box w _ _).1,(alloc2_box w _ _).2,belB,by simp⟩
 have HZS:=Lib.hid (show ZS.size=16 by rw[hZS];rfl)
 clear hw0 hZS
 have HS0:=Lib.hid hS0
 clear hS0
 refine wp_detD 10 (by kernel_rfl) (by kernel_rfl) (by kernel_rfl) (DL [IsV (.pointer (some ⟨w.heap.size,0,none⟩)),IsV (.int .i64 na),IsV (.string sa),IsV (.pointer (some ⟨w.heap.size,1,none⟩)),IsV (.int .i64 nb),IsV (.string sb),IsV (.pointer (some ⟨w.heap.size,2,none⟩)),IsV (.string sc),Row3 sa sb sc,IsV (.agg DG)]) (DL.keep _ (by simp only[KeepAll];repeat' (first | apply And.intro | exact keeps_is _ | exact keeps_row3 _ _ _ | exact trivial))) (IdS w X ZS) (HS0.out.keep (Below.drew (Below.refl _ _))) (fun _ _ h hb=>h.keep hb) ?_ ?_
 ·dsimp only[List.take_succ_cons,List.take_zero,DetD]
  refine⟨fun vals W hS hd=>?_,fun vals W hS hd=>?_,fun vals W hS hd=>?_,fun vals W hS hd=>?_,fun vals W hS hd=>?_,fun vals W hS hd=>?_,fun vals W hS hd=>?_,fun vals W hS hd=>?_,fun vals W hS hd=>?_,fun vals W hS hd=>?_,trivial⟩
  ·(try simp only[DepsL,DL,IsV,List.getD_cons_zero,List.getD_cons_succ,Region.binds,and_true,true_and]at hd)
   simp only[putL,putF,Act.put]
   (try simp only[hd])
   clear hd
   go_wp2
   exact⟨rfl,rfl,rfl,belB⟩
  ·(try simp only[DepsL,DL,IsV,List.getD_cons_zero,List.getD_cons_succ,Region.binds,and_true,true_and]at hd)
   simp only[putL,putF,Act.put]
   (try simp only[hd])
   clear hd
   have hcl:=hS.x.cell HX0.out
   go_wp2
   exact⟨rfl,rfl,rfl,belB⟩
  ·(try simp only[DepsL,DL,IsV,List.getD_cons_zero,List.getD_cons_succ,Region.binds,and_true,true_and]at hd)
   simp only[putL,putF,Act.put]
   (try simp only[hd])
   clear hd
   have hbW:=hS.b
   go_wp2_with (go_at_call 57;refine (HD.out _ hbW).mono ?_;rintro e w5 ⟨rfl,hb5⟩)
   exact⟨rfl,rfl,rfl,belB⟩
  ·(try simp only[DepsL,DL,IsV,List.getD_cons_zero,List.getD_cons_succ,Region.binds,and_true,true_and]at hd)
   simp only[putL,putF,Act.put]
   (try simp only[hd])
   clear hd
   go_wp2
   exact⟨rfl,rfl,rfl,belB⟩
  ·(try simp only[DepsL,DL,IsV,List.getD_cons_zero,List.getD_cons_succ,Region.binds,and_true,true_and]at hd)
   simp only[putL,putF,Act.put]
   (try simp only[hd])
   clear hd
   have hcl:=hS.x.cell HX1.out
   go_wp2
   exact⟨rfl,rfl,rfl,belB⟩
  ·(try simp only[DepsL,DL,IsV,List.getD_cons_zero,List.getD_cons_succ,Region.binds,and_true,true_and]at hd)
   simp only[putL,putF,Act.put]
   (try simp only[hd])
   clear hd
   have hbW:=hS.b
   go_wp2_with (go_at_call 57;refine (HT.out _ hbW).mono ?_;rintro e w5 ⟨rfl,hb5⟩)
   exact⟨rfl,rfl,rfl,belB⟩
  ·(try simp only[DepsL,DL,IsV,List.getD_cons_zero,List.getD_cons_succ,Region.binds,and_true,true_and]at hd)
   simp only[putL,putF,Act.put]
   (try simp only[hd])
   clear hd
   go_wp2
   exact⟨rfl,rfl,rfl,belB⟩
  ·(try simp only[DepsL,DL,IsV,List.getD_cons_zero,List.getD_cons_succ,Region.binds,and_true,true_and]at hd)
   simp only[putL,putF,Act.put]
   (try simp only[hd])
   clear hd
   have hcl:=hS.x.cell HX2.out
   go_wp2
   exact⟨rfl,rfl,rfl,belB⟩
  ·(try simp only[DepsL,DL,IsV,List.getD_cons_zero,List.getD_cons_succ,Region.binds,and_true,true_and]at hd)
   simp only[putL,putF,Act.put]
   (try simp only[hd])
   clear hd
   go_wp2
   exact⟨rfl,⟨_,rfl,reads3 W sa sb sc _ rfl⟩,rfl,belB⟩
  ·(try simp only[DepsL,DL,IsV,List.getD_cons_zero,List.getD_cons_succ,Region.binds,and_true,true_and]at hd)
   obtain⟨⟨g,e2,hr5⟩,_⟩:=hd
   simp only[putL,putF,Act.put]
   (try simp only[e2])
   have hbW:=hS.b
   go_wp2_with (go_at_call 56;refine (HO.out _ _ hr5 hbW).mono ?_;rintro e w5 ⟨rfl,hb5⟩)
   exact⟨rfl,rfl,rfl,belB⟩
 ·intro vals w9 hS9 hD9
  have e9:vals 9=.agg DG:=hD9 9 (by omega)
  simp only[putL,putF,Act.put]
  simp only[e9]
  clear hD9 e9
  refine wpList_store_row rfl 51 _ _ rfl (w.heap.size+1) DG rfl rfl _ ZS hS9.z HDI.out (by rw[HZS.out,HDS.out]) HDO.out ?_
  go_wp2
  refine bodyPost_ret (v:=.agg DG) ?_ rfl ⟨rfl,?_⟩
  ·exact results_cell_row rfl _ _ (w.heap.size+1) _ _ (0,0) _ rfl (setRow_heap _ _ _ _ _ _ hS9.z) Tryz.underlying51 rfl HDI.out
  ·exact below_setRow hS9.b (by omega) _
end Go.Proofs.YtlkbkclnbppigaaGreatDoor
