/- The reference of analyse: Shadowed. -/
import Derived.Test.YticlbkficolocaaGreatDoorIZ42
import Derived.Test.YticlbkficolocaaGreatDoorIZ41
import Derived.Test.YticlbkficolocaaGreatDoorIZ43
set_option maxHeartbeats 16000000
namespace Go.Proofs.YticlbkficolocaaGreatDoor
open Go.RowKit Go.Sort
set_option linter.unusedVariables false
set_option linter.unusedSimpArgs false
set_option maxRecDepth 100000
theorem infKn24:(Tryz.prog.info? 45).map (·.size)=some 2:=by kernel_rfl
def BfV (bs:List ByteArray):Value→World→Prop:=fun v W=>∃ B d,v=.slice B bs.length d∧Reads W 1 B bs.length (bs.map .string)
theorem keeps_bfV (bs:List ByteArray):Keeps (BfV bs):=fun _ _ _ ⟨B,d,e,hr⟩ hb=>⟨B,d,e,hr.keep hb⟩
def AlK (base:Nat):Value→World→Prop:=fun v W=>∃ g,v=.pointer (some ⟨g,0,none⟩)∧Qv W g 45 #[.bool false,.int .i64 0] (0,0)∧base≤g
theorem keeps_alK (base:Nat):Keeps (AlK base):=fun _ _ _ ⟨g,e,hk,hg⟩ hb=>⟨g,e,Qv.keep hk hb,hg⟩
def shRef (L:List Qh) (i:Int):Bool × Int :=
 if Uo L i=true then (match L[i.toNat]? with
  | none=>(false,1)
  | some x=>if (Ze x.r.tags).2=0 then (!(Jq x.r.pat (Z5 L x.r.tags i.toNat)).1,0) else (true,0)) else (false,1)
theorem rShadowed24_any (A:Option Addr) (n c:Nat) (i:Int) (L:List Qh) (w:World) (hL:Qs w A n L) (hf:∀ x∈L,Zw x.r) (hn:n≤1000) :
  Calls Tryz.prog 14 #[.slice A n c,.int .i64 i] w (Zx w (.agg #[.bool (shRef L i).1,.int .i64 (shRef L i).2])):=by
 have hlen:=hL.len
 have cV:=fun W (hb:Below w.heap.size w W)=>Vt A n c L W (hL.keep hb) hf (by omega)
 have hbad:Uo L i=false→shRef L i=(false,1):=fun h=>by unfold shRef;rw[if_neg (by rw[h];decide)]
 have HBAD:=Lib.hid hbad
 clear hbad
 cases hv:Xp L
 ·rw[HBAD.out (by unfold Uo;rw[hv];rfl)]
  rw[hv]at cV
  have HV:=Lib.hid cV
  clear cV hv HBAD hL hf hlen
  go_enter Tryz.func14,Tryz.ntmps14
  go_upto_region 1 with fail
  generalize hw0:World.alloc _ _=w0
  have hk:Qv w0 w.heap.size 45 #[.bool false,.int .i64 0] (0,0):=by rw[←hw0];exact World.alloc_heap_new w _
  have hb0:Below w.heap.size w w0:=by rw[←hw0];exact Qk (Below.refl _ _) _
  clear hw0
  go_wp2_with (go_at_call 36;refine (HV.out _ hb0).mono ?_;rintro e w2 ⟨rfl,hb2⟩;have hk2:=Qv.keep hk hb2;have k0:=Qv.cell hk2 0;have k1:=Qv.cell hk2 1;have g0:=Qd hk2 0;have g1:=Qd hk2 1;have hz:=Qv.lt hk2)
  exact bodyPost_ret (v:=.agg #[.bool false,.int .i64 1]) (by simp[results,Tryz.results14,go_sem,hz,k0,k1,g0,g1]) rfl ⟨rfl,Qz⟩
 rw[hv]at cV
 have HV:=Lib.hid cV
 by_cases hi0:i<0
 ·rw[HBAD.out (by unfold Uo;rw[hv,decide_eq_false (by omega)];rfl)]
  have d0:decide (i<0)=true:=decide_eq_true hi0
  clear cV hv HBAD hL hf hlen
  go_enter Tryz.func14,Tryz.ntmps14
  go_upto_region 1 with fail
  generalize hw0:World.alloc _ _=w0
  have hk:Qv w0 w.heap.size 45 #[.bool false,.int .i64 0] (0,0):=by rw[←hw0];exact World.alloc_heap_new w _
  have hb0:Below w.heap.size w w0:=by rw[←hw0];exact Qk (Below.refl _ _) _
  clear hw0
  go_wp2_with (go_at_call 36;refine (HV.out _ hb0).mono ?_;rintro e w2 ⟨rfl,hb2⟩;have hk2:=Qv.keep hk hb2;have k0:=Qv.cell hk2 0;have k1:=Qv.cell hk2 1;have g0:=Qd hk2 0;have g1:=Qd hk2 1;have hz:=Qv.lt hk2)
  exact bodyPost_ret (v:=.agg #[.bool false,.int .i64 1]) (by simp[results,Tryz.results14,go_sem,hz,k0,k1,g0,g1]) rfl ⟨rfl,Qz⟩
 have d0:decide (i<0)=false:=decide_eq_false hi0
 obtain⟨k,rfl⟩:∃ k:Nat,i=(k:Int):=⟨i.toNat,by omega⟩
 by_cases hkn:n≤k
 ·rw[HBAD.out (by unfold Uo;rw[hv,decide_eq_true (by omega),decide_eq_false (by omega)];rfl)]
  have d1:decide ((n:Int)≤(k:Int))=true:=decide_eq_true (by omega)
  clear cV hv HBAD hL hf hlen
  go_enter Tryz.func14,Tryz.ntmps14
  go_upto_region 1 with fail
  generalize hw0:World.alloc _ _=w0
  have hk:Qv w0 w.heap.size 45 #[.bool false,.int .i64 0] (0,0):=by rw[←hw0];exact World.alloc_heap_new w _
  have hb0:Below w.heap.size w w0:=by rw[←hw0];exact Qk (Below.refl _ _) _
  clear hw0
  go_wp2_with (go_at_call 36;refine (HV.out _ hb0).mono ?_;rintro e w2 ⟨rfl,hb2⟩;have hk2:=Qv.keep hk hb2;have k0:=Qv.cell hk2 0;have k1:=Qv.cell hk2 1;have g0:=Qd hk2 0;have g1:=Qd hk2 1;have hz:=Qv.lt hk2)
  exact bodyPost_ret (v:=.agg #[.bool false,.int .i64 1]) (by simp[results,Tryz.results14,go_sem,hz,k0,k1,g0,g1]) rfl ⟨rfl,Qz⟩
 have d1:decide ((n:Int)≤(k:Int))=false:=decide_eq_false (by omega)
 have hok:Uo L (k:Int)=true:=by unfold Uo;rw[hv,decide_eq_true (by omega),decide_eq_true (by omega)];rfl
 obtain⟨x,hx⟩:∃ x,L[k]? = some x:=⟨_,List.getElem?_eq_getElem (by omega)⟩
 have hxm:=List.mem_of_getElem? hx
 have hres:shRef L (k:Int)=if (Ze x.r.tags).2=0 then (!(Jq x.r.pat (Z5 L x.r.tags k)).1,0) else (true,0):=by
  unfold shRef
  rw[if_pos hok,Int.toNat_natCast,hx]
 rw[hres]
 have cT:=fun W (hb:Below w.heap.size w W)=>rTags_any x.T x.r.tags.length x.ct x.r.tags W ((hL.each x hxm).keep hb).tags (by have:=(hf x hxm).nt;omega) (fun p hp=>by have:=(hf x hxm).t p hp;omega)
 unfold rTagsV at cT
 rw[rTagsR_eq]at cT
 obtain⟨_,b,o,rfl,hcell⟩:=hL.at_ hx
 have hc1:w.cell? ⟨b,o+k*18+1,none⟩=some (.string x.r.pat):=hcell 1 _ rfl
 have hc2:w.cell? ⟨b,o+k*18+2,none⟩=some (.slice x.T x.r.tags.length x.ct):=hcell 2 _ rfl
 have hk0:(0:Int)≤(k:Int):=by omega
 have hk1:(k:Int)<(n:Int):=by omega
 obtain⟨ts,hts⟩:∃ ts,ts=(Ze x.r.tags).1:=⟨_,rfl⟩
 obtain⟨te,hte⟩:∃ te,te=(Ze x.r.tags).2:=⟨_,rfl⟩
 rw[←hts,←hte]at cT
 rw[←hte]
 have HT:=Lib.hid cT;have HC1:=Lib.hid hc1;have HC2:=Lib.hid hc2
 by_cases ht:te=0
 rotate_left
 ·rw[if_neg ht]
  have e2:(te==0)=false:=beq_eq_false_iff_ne.2 ht
  have e3:(te != 0)=true:=bne_iff_ne.2 ht
  clear cV cT hok hx hxm HBAD hL hf hlen hv hcell hc1 hc2 hres hts hte
  go_enter Tryz.func14,Tryz.ntmps14
  go_upto_region 1 with fail
  generalize hw0:World.alloc _ _=w0
  have hk:Qv w0 w.heap.size 45 #[.bool false,.int .i64 0] (0,0):=by rw[←hw0];exact World.alloc_heap_new w _
  have hb0:Below w.heap.size w w0:=by rw[←hw0];exact Qk (Below.refl _ _) _
  clear hw0
  go_wp2_with (first | ((go_at_call 36;refine (HV.out _ hb0).mono ?_;rintro e w2 ⟨rfl,hb2⟩;have hk2:=Qv.keep hk hb2;have k0:=Qv.cell hk2 0;have k1:=Qv.cell hk2 1;have g0:=Qd hk2 0;have g1:=Qd hk2 1;have hz:=Qv.lt hk2);have hb20:=Qj hb0 hb2;have z2:=Qq hb20 HC2.out) | (go_at_call 37;refine (HT.out _ hb20).mono ?_;rintro e w3 ⟨rfl,hb3⟩;have hk3:=Qv.keep hk2 hb3;clear k0 k1 g0 g1 hz;have k0:=Qv.cell hk3 0;have k1:=Qv.cell hk3 1;have g0:=Qd hk3 0;have g1:=Qd hk3 1;have hz:=Qv.lt hk3))
  exact bodyPost_ret (v:=.agg #[.bool true,.int .i64 0]) (by simp[results,Tryz.results14,go_sem,hz,k0,k1,g0,g1]) rfl ⟨rfl,Qz⟩
 rw[if_pos ht]
 subst ht
 have cB:=fun W (hb:Below w.heap.size w W)=>rBefore24_any (some ⟨b,o,none⟩) n c k L x W (hL.keep hb) hx hn hf
 have cG:=fun W (hb:Below w.heap.size w W) B d (hR:Reads W 1 B (Z5 L x.r.tags k).length ((Z5 L x.r.tags k).map .string))=>Y4 x.r.pat B (Z5 L x.r.tags k).length d (Z5 L x.r.tags k) W (by have:=(hf x hxm).pat;omega) hR (by have:=Wu L x.r.tags k;omega) (fun q hq=>by have:=bef_size hf x.r.tags k q hq;omega)
 generalize Z5 L x.r.tags k=bs at *
 obtain⟨gv,hgv⟩:∃ gv,gv=(Jq x.r.pat bs).1:=⟨_,rfl⟩
 obtain⟨ge,hge⟩:∃ ge,ge=(Jq x.r.pat bs).2:=⟨_,rfl⟩
 rw[←hgv,←hge]at cG
 rw[←hgv]
 have HB:=Lib.hid cB;have HG:=Lib.hid cG;have HK2:=Lib.hid infKn24
 clear cB cG cV cT hok hx hxm HBAD hL hf hlen hv hcell hc1 hc2 hres hts hte hgv hge
 go_enter Tryz.func14,Tryz.ntmps14
 go_upto_region 1 with fail
 generalize hw0:World.alloc _ _=w0
 have hk:Qv w0 w.heap.size 45 #[.bool false,.int .i64 0] (0,0):=by rw[←hw0];exact World.alloc_heap_new w _
 have hb0:Below w.heap.size w w0:=by rw[←hw0];exact Qk (Below.refl _ _) _
 clear hw0
 go_upto_region 6 with (first | ((go_at_call 36;refine (HV.out _ hb0).mono ?_;rintro e w2 ⟨rfl,hb2⟩;have hk2:=Qv.keep hk hb2;have k0:=Qv.cell hk2 0;have k1:=Qv.cell hk2 1;have g0:=Qd hk2 0;have g1:=Qd hk2 1;have hz:=Qv.lt hk2);have hb20:=Qj hb0 hb2;have z2:=Qq hb20 HC2.out) | (go_at_call 37;refine (HT.out _ hb20).mono ?_;rintro e w3 ⟨rfl,hb3⟩;have hk3:=Qv.keep hk2 hb3))
 generalize hw4:World.alloc _ _=w4
 have hb4:Below w3.heap.size w3 w4:=by rw[←hw4];exact Qk (Below.refl _ _) _
 have hk4:=Qv.keep hk3 hb4
 have hbw:=Qj (Qj hb20 hb3) hb4
 clear hw4 hk3 hk2 hk hb4 hb3 hb20 hb2 hb0 z2 k0 k1 g0 g1 hz
 refine Ye 10 (by kernel_rfl) (by kernel_rfl) (by kernel_rfl) (DL [Jz (.slice (some ⟨b,o,none⟩) n c),Jz (.int .i64 (k:Int)),Jz (.pointer (some ⟨b,o+k*18,none⟩)),Jz (.pointer (some ⟨b,o+k*18+1,none⟩)),Jz (.string x.r.pat),Jz (.slice (some ⟨b,o,none⟩) n c),Jz (.int .i64 (k:Int)),BfV bs,Jz (.agg #[.bool gv,.int .i64 ge]),AlK w4.heap.size]) (DL.keep _ (by simp only[WY];repeat' (first | apply And.intro | exact Uf _ | exact keeps_bfV _ | exact keeps_alK _ | exact trivial))) (fun W=>RowKit.Below w4.heap.size w4 W) (RowKit.Below.drew (RowKit.Below.refl _ _)) (fun _ _ h hb=>Qj h hb) ?_ ?_
 ·dsimp only[List.take_succ_cons,List.take_zero,DetD]
  refine⟨fun vals W hS hd=>?_,fun vals W hS hd=>?_,fun vals W hS hd=>?_,fun vals W hS hd=>?_,fun vals W hS hd=>?_,fun vals W hS hd=>?_,fun vals W hS hd=>?_,fun vals W hS hd=>?_,fun vals W hS hd=>?_,fun vals W hS hd=>?_,trivial⟩
  rotate_left 7
  ·(try simp only[Ky,DL,Jz,List.getD_cons_zero,List.getD_cons_succ,Region.binds,and_true,true_and]at hd)
   simp only[QU,Zj,Act.put]
   (try simp only[hd])
   clear hd
   have hbW:=Qj hbw hS
   go_wp2_with (go_at_call 38;refine (HB.out _ hbW).mono ?_;rintro e w5 ⟨hb5,B,d,rfl,hr5⟩)
   exact⟨rfl,⟨B,d,rfl,hr5⟩,rfl,Qz⟩
  ·(try simp only[Ky,DL,Jz,List.getD_cons_zero,List.getD_cons_succ,Region.binds,and_true,true_and]at hd)
   obtain⟨e1,_,B,d,e2,hr5⟩:=hd
   simp only[QU,Zj,Act.put]
   (try simp only[e1,e2])
   have hbW:=Qj hbw hS
   go_wp2_with (go_at_call 13;refine (HG.out _ hbW _ _ hr5).mono ?_;rintro e w5 ⟨rfl,hb5⟩)
   exact⟨rfl,rfl,rfl,Qz⟩
  ·(try simp only[Ky,DL,Jz,List.getD_cons_zero,List.getD_cons_succ,Region.binds,and_true,true_and]at hd)
   simp only[QU,Zj,Act.put]
   (try simp only[hd])
   clear hd
   have hsz:=hS.size
   go_wp2
   exact⟨rfl,⟨_,rfl,World.alloc_heap_new W _,hsz⟩,rfl,Qz⟩
  all_goals
   (try simp only[Ky,DL,Jz,List.getD_cons_zero,List.getD_cons_succ,Region.binds,and_true,true_and]at hd)
   simp only[QU,Zj,Act.put]
   (try simp only[hd])
   clear hd
   have y1:=Qq (Qj hbw hS) HC1.out
   go_wp2
   exact⟨rfl,rfl,rfl,Qz⟩
 ·intro vals w9 hS9 hD
  have e8:vals 8=.agg #[.bool gv,.int .i64 ge]:=hD 8 (by omega)
  obtain⟨g,e9,hg9,hgz⟩:AlK w4.heap.size (vals 9) w9:=hD 9 (by omega)
  simp only[QU,Zj,Act.put]
  simp only[e8,e9]
  clear hD e8 e9
  refine wpList_store_row rfl 45 _ _ rfl g #[.bool gv,.int .i64 ge] rfl rfl _ #[.bool false,.int .i64 0] hg9 HK2.out rfl (by simp[Value.oneCell']) ?_
  generalize hw6:World.setRow _ _ _=w6
  have hg6:Qv w6 g 45 #[.bool gv,.int .i64 ge] (0,0):=by rw[←hw6];exact setRow_heap _ _ _ _ _ _ hg9
  have hb6:RowKit.Below w4.heap.size w4 w6:=by rw[←hw6];exact below_setRow hS9 hgz _
  have hk6:=Qv.keep hk4 hb6
  have k0:=Qv.cell hk6 0
  have k1:=Qv.cell hk6 1
  have g0:=Qd hk6 0
  have g1:=Qd hk6 1
  have hz:=Qv.lt hk6
  have c0:=Qv.cell hg6 0
  have hgl:=Qv.lt hg6
  clear hw6 hg9 hS9 hk4
  go_wp2
  exact bodyPost_ret (v:=.agg #[.bool (!gv),.int .i64 0]) (by simp[results,Tryz.results14,go_sem,hz,k0,k1,g0,g1]) rfl ⟨rfl,Qz⟩
theorem ask1_load {W:World} {g:Nat} {X:Array Value} (h:Zl W g 36 X) (hs:X.size=6):(loadVar 36 ⟨g,0,none⟩).run Tryz.prog W=.ok (.agg X) W :=
 run_loadVar_row (P:=Tryz.prog) W g _ 36 X _ _ h Tryz.underlying36 rfl (by rw[hs];kernel_rfl)
theorem san24_any (w:World) (hE:Env w) (hT:Tab w):Calls Tryz.prog 6 #[] w (Zx w (.bool true)):=by
 have hg1:=fun W (hb:Below w.heap.size w W)=>gapE1 W (hE.keep hb) (hT.keep hb)
 have hg2:=fun W (hb:Below w.heap.size w W)=>gapE2 W (hE.keep hb) (hT.keep hb)
 have hg3:=fun W (hb:Below w.heap.size w W)=>gapE3 W (hE.keep hb) (hT.keep hb)
 have r1:=fun T W=>rule24_any (⟨#[111,110,101]⟩:ByteArray) (⟨#[97,99,109,101,47,42,42]⟩:ByteArray) (some ⟨T,0,none⟩) 1 1 ⟨#[]⟩ W
 have r2:=fun U W=>rule24_any (⟨#[116,119,111]⟩:ByteArray) (⟨#[97,99,109,101,47,97]⟩:ByteArray) (some ⟨U,0,none⟩) 2 2 ⟨#[]⟩ W
 have r3:=fun W=>rule24_any (⟨#[116,104,114,101,101]⟩:ByteArray) (⟨#[97,99,109,101,47,97]⟩:ByteArray) none 0 0 (⟨#[97,99,109,101,47,98]⟩:ByteArray) W
 have HG1:=Lib.hid hg1;have HG2:=Lib.hid hg2;have HG3:=Lib.hid hg3;have R1:=Lib.hid r1;have R2:=Lib.hid r2;have R3:=Lib.hid r3;have HE:=Lib.hid hE;have HT:=Lib.hid hT
 clear hg1 hg2 hg3 r1 r2 r3 hE hT
 go_enter Tryz.func6,Tryz.ntmps6
 go_upto_region 2 with (go_at_call 7;refine (HG1.out w (Below.refl _ _)).mono ?_;rintro e w1 ⟨s1,rfl,hb1⟩)
 go_upto_region 3 with (go_at_call 7;refine (HG2.out w1 hb1).mono ?_;rintro e w2 ⟨rfl,hb2⟩)
 have hbw2:=Qj hb1 hb2
 go_upto_region 4 with (go_at_call 7;refine (HG3.out w2 hbw2).mono ?_;rintro e w3 ⟨s3,rfl,hm3,hz3,hb3⟩)
 have hbw3:=Qj hbw2 hb3
 obtain⟨hm31,hm32,hm33⟩:=hm3
 have HM1:=Lib.hid hm31;have HM2:=Lib.hid hm32;have HM3:=Lib.hid hm33
 clear hm31 hm32 hm33 hb1 hb2 hb3 hbw2 HG1 HG2 HG3
 go_wp2_with fail
 refine (R1.out _ _).mono ?_
 rintro e wA ⟨rfl,hbA⟩
 generalize hXA:List.toArray (row24 _ _ _ _ _ _)=XA
 go_wp2_with fail
 refine (R2.out _ _).mono ?_
 rintro e wB ⟨rfl,hbB⟩
 generalize hXB:List.toArray (row24 _ _ _ _ _ _)=XB
 go_wp2_with fail
 refine (R3.out _).mono ?_
 rintro e wC ⟨rfl,hbC⟩
 generalize hXC:List.toArray (row24 _ _ _ _ _ _)=XC
 have hbs:=fun W=>run_bs24 w3.heap.size wA.heap.size W
 rw[hXA,hXB,hXC]at hbs
 generalize hZ:((rL (some ⟨w3.heap.size,0,none⟩) (some ⟨wA.heap.size,0,none⟩)).flatMap Qh.cells).toArray=Z at hbs
 have HBS:=Lib.hid hbs;have HZ:=Lib.hid hZ;have HXA:=Lib.hid hXA
 have sA:=hbA.size
 have sB:=hbB.size
 have sC:=hbC.size
 rw[World.size_alloc]at sA sB
 have bT:wC.heap[w3.heap.size]? = some (.cells #[.string (⟨#[104,111,116]⟩:ByteArray)] 9 (0,0)):=(hbC.block _ (by omega)).trans ((hbB.block _ (by rw[World.size_alloc];omega)).trans ((heap_alloc_old wA _ (by omega)).trans ((hbA.block _ (by rw[World.size_alloc];omega)).trans (heap_alloc_new w3 _))))
 have bU:wC.heap[wA.heap.size]? = some (.cells #[.string (⟨#[104,111,116]⟩:ByteArray),.string (⟨#[110,101,119]⟩:ByteArray)] 9 (0,0)):=(hbC.block _ (by omega)).trans ((hbB.block _ (by rw[World.size_alloc];omega)).trans (heap_alloc_new wA _))
 have hbwC:Below w.heap.size w wC:=Qj (Qj (hbw3.trans (((Below.refl _ _).alloc (Nat.le_refl _) _ |>.trans (hbA.mono (by rw[World.size_alloc];omega))).mono (by have:=hbw3.size;omega))) (((Below.refl _ _).alloc (Nat.le_refl _) _).trans (hbB.mono (by rw[World.size_alloc];omega)))) hbC
 clear hbs hZ hXA hXB hXC R1 R2 R3 hbA hbB hbC
 go_upto_region 5 with (refine UX rfl _ _ _ rfl _ (by kernel_rfl) _ _ (HBS.out _) ?_)
 generalize hw4:World.alloc _ _=w4
 obtain⟨gl,hgl⟩:∃ gl,gl=wC.heap.size:=⟨_,rfl⟩
 have hal4:Below wC.heap.size wC w4:=by rw[←hw4];exact (Below.refl _ _).alloc (Nat.le_refl _) _
 have bl:w4.heap[gl]? = some (.cells ((rL (some ⟨w3.heap.size,0,none⟩) (some ⟨wA.heap.size,0,none⟩)).flatMap Qh.cells).toArray 57 (0,0)):=by rw[←hw4,HZ.out,hgl];exact heap_alloc_new wC _
 have hLR:=rules24 bl ((hal4.block _ (by omega)).trans bT) ((hal4.block _ (by omega)).trans bU)
 have hbw4:=Qj hbwC hal4
 rw[←hgl]
 obtain⟨T,hT⟩:∃ T,T=w3.heap.size:=⟨_,rfl⟩
 obtain⟨U,hU⟩:∃ U,U=wA.heap.size:=⟨_,rfl⟩
 rw[←hT,←hU]at hLR
 have HLR:=Lib.hid hLR;have HBW4:=Lib.hid hbw4;have HBW3:=Lib.hid hbw3
 clear hLR bl hal4 bT bU hw4 hgl hT hU HXA HZ HBS hbwC sA sB sC
 have he4:=HE.out.keep hbw4
 have ht4:=HT.out.keep hbw4
 have HE4:=Lib.hid he4;have HT4:=Lib.hid ht4
 clear he4 ht4 hbw3 hbw4
 go_wp2_with fail
 refine (shE1 w4 HLR.out HE4.out HT4.out).mono ?_
 rintro e w5 ⟨s5,rfl,hb5⟩
 go_wp2_with fail
 refine (shE2 w5 (HLR.out.keep hb5) (HE4.out.keep hb5) (HT4.out.keep hb5)).mono ?_
 rintro e w6 ⟨rfl,hb6⟩
 have hb46:=Qj hb5 hb6
 go_wp2_with fail
 refine (deE2 w6 (HLR.out.keep hb46) (HE4.out.keep hb46) (HT4.out.keep hb46)).mono ?_
 rintro e w7 ⟨⟨a0,a1,a2,a3,a4,a5⟩,rfl,hb7⟩
 dsimp only[Kr.val]
 have hb47:=Qj hb46 hb7
 go_wp2_with fail
 have hb48:Below w4.heap.size w4 (w7.alloc (.cells #[.string a0,.string a1,.string a2,.int .i64 a3,.int .i64 a4,.int .i64 a5] 36)):=Qk hb47 _
 refine (deE0 _ (HLR.out.keep hb48) (HE4.out.keep hb48) (HT4.out.keep hb48)).mono ?_
 rintro e w8 ⟨⟨c0,c1,c2,c3,c4,c5⟩,rfl,⟨hho,hfi⟩,hb8⟩
 dsimp only[Kr.val]
 have hb49:=Qj hb48 hb8
 have HHO:=Lib.hid hho;have HFI:=Lib.hid hfi
 clear hho hfi hb5 hb6 hb7 hb8 hb46 hb47 hb48
 have hw9:Zl (w8.alloc (.cells #[.string c0,.string c1,.string c2,.int .i64 c3,.int .i64 c4,.int .i64 c5] 36)) w8.heap.size 36 #[.string c0,.string c1,.string c2,.int .i64 c3,.int .i64 c4,.int .i64 c5]:=heap_alloc_new w8 _
 have hbz:=Qk hb49 (.cells #[.string c0,.string c1,.string c2,.int .i64 c3,.int .i64 c4,.int .i64 c5] 36)
 obtain⟨gz,hgz⟩:∃ gz,gz=w8.heap.size:=⟨_,rfl⟩
 rw[←hgz]at hw9
 go_upto_region 9 with fail
 rw[←hgz]
 generalize World.alloc w8 _=w9 at *
 have hm1:=fun W (hb:Below w4.heap.size w4 W)=>(show Calls Tryz.prog 21 #[.string (⟨#[97,99,109,101,47,42]⟩:ByteArray),.string s3] W (Zx W (.bool true)) from HM1.out▸match_any (⟨#[97,99,109,101,47,42]⟩:ByteArray) s3 W (by decide) (by omega) (HE4.out.keep hb))
 have hm2:=fun W (hb:Below w4.heap.size w4 W)=>(show Calls Tryz.prog 21 #[.string (⟨#[97,99,109,101,47,42,46,99,115,115]⟩:ByteArray),.string s3] W (Zx W (.bool false)) from HM2.out▸match_any (⟨#[97,99,109,101,47,42,46,99,115,115]⟩:ByteArray) s3 W (by decide) (by omega) (HE4.out.keep hb))
 have HN1:=Lib.hid hm1;have HN2:=Lib.hid hm2
 have hsa:SaS w4 gl T U gz ⟨c0,c1,c2,c3,c4,c5⟩ w9:=⟨HLR.out.keep hbz,hw9,hbz⟩
 have HS:=Lib.hid hsa
 have HM3':=HM3.out
 clear hm1 hm2 hsa hw9 hgz hb49 HM1 HM2
 go_wp2_with fail
 refine (HN1.out w9 HS.out.b).mono ?_
 rintro e wx ⟨rfl,hbx⟩
 have HS2:=Lib.hid (HS.out.keep hbx)
 clear HS hbx
 go_wp2_with fail
 refine (HN2.out wx HS2.out.b).mono ?_
 rintro e wy ⟨rfl,hby⟩
 have HS3:=Lib.hid (HS2.out.keep hby)
 clear HS2 hby
 rw[show ((⟨#[97,99,109,101,47,97]⟩:ByteArray):ByteArray).toList=[97,99,109,101,47,97] from Lib.toList_data _]at HM3'
 have hm3:=Lib.hid HM3'
 clear HM3 HM3'
 go_upto_region 11 with fail
 rw[hm3.out]
 simp only[Bool.not_false]
 have hld:∀ W,SaS w4 gl T U gz ⟨c0,c1,c2,c3,c4,c5⟩ W→(loadVar 57 ⟨gl,0,none⟩).run Tryz.prog W=.ok (rA (some ⟨T,0,none⟩)).val W:=fun W h=>by
  obtain⟨_,b,o,hbo,hcell⟩:=h.l.at_ (k:=0) (x:=rA (some ⟨T,0,none⟩)) rfl
  have hbo2:=Option.some.inj hbo
  injection hbo2 with e1 e2
  subst e1;subst e2
  exact Uj W _ 0 _ (fun j u hu=>by have:=hcell j u hu;rwa [Nat.zero_mul,Nat.add_zero]at this)
 have hpe:∀ W,SaS w4 gl T U gz ⟨c0,c1,c2,c3,c4,c5⟩ W→Calls Tryz.prog 22 #[(rA (some ⟨T,0,none⟩)).val,Kr.val ⟨c0,c1,c2,c3,c4,c5⟩] W (Zx W (.bool true)):=fun W h=>HHO.out▸permits_any _ _ W (h.l.at_ (k:=0) rfl).1 (rFit (some ⟨T,0,none⟩) (some ⟨U,0,none⟩) _ (List.Mem.head _)).c HFI.out (HE4.out.keep h.b)
 have hbx:∀ W,SaS w4 gl T U gz ⟨c0,c1,c2,c3,c4,c5⟩ W→(loadVar 36 ⟨gz,0,none⟩).run Tryz.prog W=.ok (Kr.val ⟨c0,c1,c2,c3,c4,c5⟩) W:=fun W h=>ask1_load h.z rfl
 unfold Kr.val at hpe hbx
 dsimp only at hpe hbx
 unfold Qh.val at hld hpe
 have hbe:∀ W,SaS w4 gl T U gz ⟨c0,c1,c2,c3,c4,c5⟩ W→Below w.heap.size w W:=fun W h=>Qj HBW4.out h.b
 generalize (rA (some ⟨T,0,none⟩)).cells.toArray=XR at *
 generalize #[Value.string c0,.string c1,.string c2,.int .i64 c3,.int .i64 c4,.int .i64 c5]=XQ at *
 have hke:∀ W W',SaS w4 gl T U gz ⟨c0,c1,c2,c3,c4,c5⟩ W→Below W.heap.size W W'→SaS w4 gl T U gz ⟨c0,c1,c2,c3,c4,c5⟩ W':=fun _ _ h hb=>h.keep hb
 have h0:=HS3.out
 generalize SaS w4 gl T U gz ⟨c0,c1,c2,c3,c4,c5⟩=SS at *
 have HL:=Lib.hid hld;have HP:=Lib.hid hpe;have HX:=Lib.hid hbx;have HK:=Lib.hid hke;have HB:=Lib.hid hbe
 clear hld hpe hbx hke hbe HLR HHO HFI HN1 HN2 HS3 HBW4 HBW3 HE4 HT4 HE HT hm3 hz3
 refine Xo 29 (by kernel_rfl) (by kernel_rfl) (by kernel_rfl) (fun i=>[.bool true,.bool true,.bool true,.bool true,.bool true,.bool true,.bool true,.bool true,.bool false,.bool true,.bool true,.bool true,.string (⟨#[97,99,109,101,47,97]⟩:ByteArray),.bool true,.bool true,.bool true,.bool true,.bool true,.bool true,.bool false,.bool true,.bool true,.bool true,.slice (some ⟨gl,0,none⟩) 3 3,.pointer (some ⟨gl,0,none⟩),.agg XR,.agg XQ,.bool true,.bool true].getD i undef) SS (HK.out _ _ h0 (Below.drew (Below.refl _ _))) (fun _ _ h hb=>HK.out _ _ h hb) ?_ ?_
 ·simp only[QU,Zj,Act.put]
  refine⟨fun W hS=>?_,fun W hS=>?_,fun W hS=>?_,fun W hS=>?_,fun W hS=>?_,fun W hS=>?_,fun W hS=>?_,fun W hS=>?_,fun W hS=>?_,fun W hS=>?_,fun W hS=>?_,fun W hS=>?_,fun W hS=>?_,fun W hS=>?_,fun W hS=>?_,fun W hS=>?_,fun W hS=>?_,fun W hS=>?_,fun W hS=>?_,fun W hS=>?_,fun W hS=>?_,fun W hS=>?_,fun W hS=>?_,fun W hS=>?_,fun W hS=>?_,fun W hS=>?_,fun W hS=>?_,fun W hS=>?_,fun W hS=>?_,trivial⟩
  all_goals
   go_wp2_with (first | (refine V9 (by kernel_rfl) 57 _ rfl ⟨gl,0,none⟩ (.agg XR) rfl (HL.out _ hS) ?_) | (refine V9 (by kernel_rfl) 36 _ rfl ⟨gz,0,none⟩ (.agg XQ) rfl (HX.out _ hS) ?_) | (go_at_call 22;refine (HP.out _ hS).mono ?_;rintro e w2 ⟨rfl,hb2⟩;replace hS:=HK.out _ _ hS hb2))
   exact⟨rfl,rfl,by first | exact Below.refl _ _ | assumption⟩
 intro wz hSz
 simp only[QU,Zj,Act.put]
 have hbE:=HB.out _ hSz
 go_wp2
 go_ret
 exact⟨rfl,hbE⟩
theorem ltB_tot (a b:ByteArray) (h1:KQ a b=false) (h2:KQ b a=false):a=b:=by
 unfold KQ at h1 h2
 rw[decide_eq_false_iff_not]at h1 h2
 exact Qm (List.le_antisymm (List.not_lt.1 h2) (List.not_lt.1 h1))
structure UnI (zs os:List ByteArray):Prop where
 up:os.Pairwise fun a b=>KQ a b=true
 sub:∀ o∈os,o∈zs
 cov:∀ z∈zs,z∈os∨∀ o∈os,KQ o z=true
def candB (os:List ByteArray) (z:ByteArray):Bool:=os.all fun o=>KQ o z
def BestI (zs os:List ByteArray) (k:Nat) (best:ByteArray) (found:Bool):Prop :=
 (found=false∧∀ z∈zs.take k,candB os z=false)∨(found=true∧best∈zs∧candB os best=true∧∀ z∈zs.take k,candB os z=true→KQ z best=false)
theorem cand_last {os:List ByteArray} {o z:ByteArray} (hu:os.Pairwise fun a b=>KQ a b=true) (h:os.getLast? = some o):candB os z=KQ o z:=by
 obtain⟨l,rfl⟩:∃ l,os=l++[o]:=List.getLast?_eq_some_iff.1 h
 rw[List.pairwise_append]at hu
 unfold candB
 rw[List.all_append]
 simp only[List.all_cons,List.all_nil,Bool.and_true]
 cases hz:KQ o z
 ·simp
 ·rw[Bool.and_true,List.all_eq_true]
  intro a ha
  exact ltB_tr a o z (hu.2.2 a ha o (by simp)) hz
theorem cand_nil (z:ByteArray):candB [] z=true:=rfl
theorem best_step {zs os:List ByteArray} {k:Nat} {best z:ByteArray} {found:Bool} (h:BestI zs os k best found) (hz:zs[k]? = some z):BestI zs os (k+1) (if (candB os z&&(!found||KQ z best))=true then z else best) (if (candB os z&&(!found||KQ z best))=true then true else found):=by
 have hzm:=List.mem_of_getElem? hz
 have ht:∀ y∈zs.take (k+1),y∈zs.take k∨y=z:=by
  intro y hy
  rw[List.take_add_one,hz]at hy
  rcases List.mem_append.1 hy with hy | hy
  ·exact .inl hy
  ·exact .inr (by simpa using hy)
 cases hc:candB os z
 ·simp only[Bool.false_and,Bool.false_eq_true,if_false]
  rcases h with ⟨h1,h2⟩ | ⟨h1,h2,h3,h4⟩
  ·exact .inl ⟨h1,fun y hy=>(ht y hy).elim (h2 y) (fun e=>by rw[e];exact hc)⟩
  ·exact .inr ⟨h1,h2,h3,fun y hy hcy=>(ht y hy).elim (fun hy=>h4 y hy hcy) (fun e=>by rw[e,hc]at hcy;cases hcy)⟩
 ·simp only[Bool.true_and]
  rcases h with ⟨h1,h2⟩ | ⟨h1,h2,h3,h4⟩
  ·subst h1
   simp only[Bool.not_false,Bool.true_or,if_true]
   refine .inr ⟨rfl,hzm,hc,fun y hy hcy=>(ht y hy).elim (fun hy=>?_) (fun e=>by rw[e];exact ltB_ir z)⟩
   rw[h2 y hy]at hcy;cases hcy
  ·subst h1
   simp only[Bool.not_true,Bool.false_or]
   cases hl:KQ z best
   ·simp only[Bool.false_eq_true,if_false]
    exact .inr ⟨rfl,h2,h3,fun y hy hcy=>(ht y hy).elim (fun hy=>h4 y hy hcy) (fun e=>by rw[e];exact hl)⟩
   ·simp only[if_true]
    refine .inr ⟨rfl,hzm,hc,fun y hy hcy=>(ht y hy).elim (fun hy=>?_) (fun e=>by rw[e];exact ltB_ir z)⟩
    cases hyz:KQ y z
    ·rfl
    ·have:=ltB_tr y z best hyz hl
     rw[h4 y hy hcy]at this;cases this
theorem un_step {zs os:List ByteArray} {best:ByteArray} (h:UnI zs os) (hb:BestI zs os zs.length best true):UnI zs (os++[best]):=by
 rcases hb with ⟨h1,_⟩ | ⟨_,h2,h3,h4⟩
 ·cases h1
 rw[List.take_length]at h4
 have h3':∀ o∈os,KQ o best=true:=fun o ho=>List.all_eq_true.1 h3 o ho
 refine⟨?_,?_,?_⟩
 ·rw[List.pairwise_append]
  exact⟨h.up,List.pairwise_singleton _ _,fun a ha b hb=>by rw[List.mem_singleton.1 hb];exact h3' a ha⟩
 ·intro o ho
  rcases List.mem_append.1 ho with ho | ho
  ·exact h.sub o ho
  ·rw[List.mem_singleton.1 ho];exact h2
 ·intro z hz
  rcases h.cov z hz with hc | hc
  ·exact .inl (List.mem_append.2 (.inl hc))
  ·have h5:=h4 z hz (List.all_eq_true.2 fun o ho=>hc o ho)
   cases hl:KQ best z
   ·have:=ltB_tot z best h5 hl
    exact .inl (by rw[this];simp)
   ·refine .inr fun o ho=>?_
    rcases List.mem_append.1 ho with ho | ho
    ·exact hc o ho
    ·rw[List.mem_singleton.1 ho];exact hl
theorem un_done {zs os:List ByteArray} {best:ByteArray} (h:UnI zs os) (hb:BestI zs os zs.length best false):∀ x,x∈os↔x∈zs:=by
 rcases hb with ⟨_,h2⟩ | ⟨h1,_⟩
 rotate_left
 ·cases h1
 rw[List.take_length]at h2
 intro x
 refine⟨h.sub x,fun hx=>(h.cov x hx).elim id fun hc=>?_⟩
 have:=h2 x hx
 rw[show candB os x=true from List.all_eq_true.2 fun o ho=>hc o ho]at this
 cases this
theorem un_len {zs os:List ByteArray} (h:UnI zs os):os.length≤zs.length:=by
 have hn:os.Nodup:=by
  unfold List.Nodup
  refine List.Pairwise.imp ?_ h.up
  intro a b hab e
  subst e
  rw[ltB_ir]at hab;cases hab
 have h2:=(lens_sub (os.map (·.data.toList)) (zs.map (·.data.toList)) ((List.pairwise_map).2 (hn.imp fun h e=>h (Qm e))) (fun x hx=>by
  obtain⟨o,ho,rfl⟩:=List.mem_map.1 hx
  exact List.mem_map.2 ⟨o,h.sub o ho,rfl⟩)).2
 rw[List.length_map,List.length_map]at h2
 exact h2
theorem un_nil (zs:List ByteArray):UnI zs []:=⟨List.Pairwise.nil,(fun o ho=>(by cases ho)),fun z _=>.inr (fun o ho=>(by cases ho))⟩
def lenV5:Value→Nat
 | .slice _ n _=>n
 | _=>0
theorem run_bs0S (W:World):(Instr.buildSlice 22 0 #[]).run Tryz.prog W=.ok (.slice (some ⟨W.heap.size,0,none⟩) 0 0) (W.alloc (.cells #[] 9)):=by kernel_rfl
theorem bytes_less (a b:ByteArray):Op.bytesLess a.toList b.toList=KQ a b:=by
 rw[bytesLess_eq,Lib.toList_data,Lib.toList_data];rfl
theorem gtr_ltB (a b:ByteArray):(!(Op.bytesLess a.toList b.toList||a.toList==b.toList))=KQ b a:=by
 rw[Ym,Bool.not_not]
structure UnS (w w4:World) (zs:List ByteArray) (AB:Option Addr) (N:Nat) (os:List ByteArray) (O:Value) (W:World):Prop where
 r4:Reads w4 1 AB N (zs.map .string)
 h4:RowKit.Below w.heap.size w w4
 o:W.ownsRow w4.heap.size 9 1 O os.length (os.map .string)
 b4:RowKit.Below w4.heap.size w4 W
theorem UnS.keep {w w4:World} {zs:List ByteArray} {AB:Option Addr} {N:Nat} {os:List ByteArray} {O:Value} {W W':World} (h:UnS w w4 zs AB N os O W) (hb:RowKit.Below W.heap.size W W'):UnS w w4 zs AB N os O W':=⟨h.r4,h.h4,Ql h.o hb,Qj h.b4 hb⟩
theorem UnS.r {w w4:World} {zs:List ByteArray} {AB:Option Addr} {N:Nat} {os:List ByteArray} {O:Value} {W:World} (h:UnS w w4 zs AB N os O W):Reads W 1 AB N (zs.map .string):=h.r4.keep h.b4
theorem UnS.b {w w4:World} {zs:List ByteArray} {AB:Option Addr} {N:Nat} {os:List ByteArray} {O:Value} {W:World} (h:UnS w w4 zs AB N os O W):RowKit.Below w.heap.size w W:=Qj h.h4 h.b4
theorem UnS.s {w w4:World} {zs:List ByteArray} {AB:Option Addr} {N:Nat} {os:List ByteArray} {O:Value} {W:World} (h:UnS w w4 zs AB N os O W):w4.heap.size≤W.heap.size:=h.b4.size
theorem rUnion23_any (A:Option Addr) (na ca:Nat) (B:Option Addr) (nb cb:Nat) (xs ys:List ByteArray) (w:World) (hA:Reads w 1 A na (xs.map .string)) (hB:Reads w 1 B nb (ys.map .string)) (h1:na≤1000) (h2:nb≤1000) :
  Calls Tryz.prog 86 #[.slice A na ca,.slice B nb cb] w (V8 xs ys w):=by
 have hla:xs.length=na:=by have:=hA.1;simp at this;omega
 have hlb:ys.length=nb:=by have:=hB.1;simp at this;omega
 obtain⟨i0,hi0,hz0,hz1,hz2⟩:=info_parts V4
 have HI:=Lib.hid (And.intro hi0 (And.intro hz0 (And.intro hz1 hz2)))
 obtain⟨zs,hzs⟩:∃ zs,zs=xs++ys:=⟨_,rfl⟩
 have hzl:zs.length=na+nb:=by rw[hzs,List.length_append];omega
 have hP:∀ os O q W,UnI zs os→(∀ x,x∈os↔x∈zs)→Below w.heap.size w W→Reads W 1 O os.length (os.map .string)→V8 xs ys w (.returned (.slice O os.length q)) W:=fun os O q W hu hm hb hR =>
  ⟨hb,O,q,os,rfl,hR,fun x=>by rw[hm x,hzs,List.mem_append],by have:=un_len hu;omega⟩
 generalize hR:V8 xs ys w=R at *
 have HP:=Lib.hid hP;have HZL:=Lib.hid hzl
 have hown0:(w.alloc (.cells #[] 9)).ownsRow w.heap.size 9 1 (.slice (some ⟨w.heap.size,0,none⟩) 0 0) 0 []:=World.ownsRow_lit w #[] 0 (Nat.le_refl _) (by unfold maxLen;omega) rfl
 have hba:RowKit.Below w.heap.size w (w.alloc (.cells #[] 9)):=(RowKit.Below.refl _ _).alloc (Nat.le_refl _) _
 have HO0:=Lib.hid hown0;have HBA:=Lib.hid hba;have RA:=Lib.hid (Reads.keep hA hba);have RYB:=Lib.hid hB
 have HZS:=Lib.hid hzs
 clear hi0 hz0 hz1 hz2 hP hR hown0 hba hA hB hla hlb hzl hzs
 go_enter Tryz.func86,Tryz.ntmps86
 go_upto_region 2 with (first
  | (refine UX rfl _ _ _ rfl #[] rfl _ _ (run_bs0S _) ?_)
  | (at_builtin;refine J8 _ rfl _ _ 22 rfl w.heap.size 9 i0 (.string ⟨#[]⟩) 16 Tryz.underlying22 HI.out.1 HI.out.2.1 HI.out.2.2.1 HI.out.2.2.2 rfl _ _ _ rfl HO0.out A na ca (xs.map .string) rfl RA.out (strs_one _) (by unfold maxLen;omega) (by omega) (by simp) ?_;intro v3 w3 hown3 hg3;have hb3:RowKit.Below w.heap.size w w3:=HBA.out.grown hg3 (by simp) (fun r e=>by have e2:w.heap.size=r:=Option.some.inj e;omega);have HO3:=Lib.hid hown3;have HB3:=Lib.hid hb3;clear hown3 hg3 hb3 HO0)
  | (at_builtin;refine J8 _ rfl _ _ 22 rfl w.heap.size 9 i0 (.string ⟨#[]⟩) 16 Tryz.underlying22 HI.out.1 HI.out.2.1 HI.out.2.2.1 HI.out.2.2.2 rfl _ _ _ rfl HO3.out B nb cb (ys.map .string) rfl (RYB.out.keep HB3.out) (strs_one _) (by unfold maxLen;omega) (by omega) HB3.out.size ?_;intro v4 w4 hown4 hg4;have hb4:RowKit.Below w.heap.size w w4:=HB3.out.grown hg4 HB3.out.size (fun r e=>((HO3.out).lt r e).1);rw[Nat.zero_add,List.nil_append,←List.map_append,←HZS.out]at hown4;obtain⟨AB,cA,rfl⟩:=own_slice hown4;have hr4:=Reads.of_own hown4))
 have hS0:UnS w w4 zs AB (na+nb) [] (.slice none 0 0) w4:=⟨hr4,hb4,World.ownsRow_nil _ _ _ _,RowKit.Below.refl _ _⟩
 have HS0:=Lib.hid hS0
 clear hS0 hr4 hb4 hown4 hg4 RA RYB HBA HO3 HB3 HZS
 obtain⟨N,hN⟩:∃ N,N=na+nb:=⟨_,rfl⟩
 rw[←hN]at HS0 HZL ⊢
 have hN2:N≤2000:=by omega
 clear hN
 go_wp2_with fail
 go_loopw [6] (fun ov wr=>∃ (os:List ByteArray) (O:Option Addr) (q:Nat),ov=.slice O os.length q∧Hid (UnI zs os)∧Hid (UnS w w4 zs AB N os (.slice O os.length q) wr)) (fun ov _=>N+1-lenV5 ov)
 case atStart=>exact⟨[],none,0,rfl,Lib.hid (un_nil zs),HS0⟩
 case round =>
  obtain⟨os,O,q,rfl,HU,HS⟩:=hrel
  clear HS0
  have hol:=un_len HU.out
  rw[HZL.out]at hol
  have d0:decide ((os.length:Int)≤(N:Int))=true:=decide_eq_true (by omega)
  obtain⟨wo,hwo⟩:∃ wo:World,wo=wr:=⟨_,rfl⟩
  go_wp2_with fail
  go_loopw [7,8,9] (fun bv fv iv wr=>∃ (k:Nat) (best:ByteArray) (found:Bool),k≤N∧iv=.int .i64 k∧bv=.string best∧fv=.bool found∧Hid (BestI zs os k best found)∧Hid (UnS w w4 zs AB N os (.slice O os.length q) wr)) (fun _ _ iv _=>N-(intOf iv).toNat)
  case atStart=>exact⟨0,⟨#[]⟩,false,by omega,rfl,rfl,rfl,Lib.hid (.inl ⟨rfl,fun z hz=>by simp at hz⟩),HS⟩
  case round =>
   obtain⟨k,best,found,hk,rfl,rfl,rfl,HBst,HSr⟩:=hrel
   by_cases hlt:k<N
   ·obtain⟨z,hz⟩:∃ z,zs[k]? = some z:=⟨_,List.getElem?_eq_getElem (by have:=HZL.out;omega)⟩
    have hstep:=best_step HBst.out hz
    obtain⟨pb,po,rfl,hcz⟩:=HSr.out.r.2 (by omega)
    have hk0:(0:Int)≤(k:Int):=by omega
    have hk1:(k:Int)<(N:Int):=by omega
    have hcl:∀ W,UnS w w4 zs (some ⟨pb,po,none⟩) N os (.slice O os.length q) W→W.cell? ⟨pb,po+k,none⟩=some (.string z):=fun W hS=>by
     obtain⟨b',o',he,hc⟩:=hS.r.2 (by omega)
     injection he with he
     injection he with e1 e2 _
     subst e1;subst e2
     exact hc k _ (by simp[hz])
    have HCL:=Lib.hid hcl
    have HST:=Lib.hid hstep
    clear hcz hcl hz hstep HBst
    have hlb:=bytes_less z best
    generalize KQ z best=l at *
    rcases List.eq_nil_or_concat os with he | ⟨os',o,he⟩
    ·subst he
     rw[cand_nil]at HST
     go_upto_region 9 with fail
     refine Xo 16 (by kernel_rfl) (by kernel_rfl) (by kernel_rfl) (fun q9=>[.slice O 0 q,.int .i64 0,.bool true,.bool true,undef,undef,undef,undef,undef,undef,undef,undef,undef,undef,undef,.bool true].getD q9 undef) (UnS w w4 zs (some ⟨pb,po,none⟩) N [] (.slice O 0 q)) (HSr.out.keep (RowKit.Below.drew (RowKit.Below.refl _ _))) (fun _ _ h hb=>h.keep hb) ?_ ?_
     ·simp only[QU,Zj,Act.put]
      refine⟨fun W hS=>?_,fun W hS=>?_,fun W hS=>?_,fun W hS=>?_,fun W hS=>?_,fun W hS=>?_,fun W hS=>?_,fun W hS=>?_,fun W hS=>?_,fun W hS=>?_,fun W hS=>?_,fun W hS=>?_,fun W hS=>?_,fun W hS=>?_,fun W hS=>?_,fun W hS=>?_,trivial⟩
      all_goals
       have z1:=HCL.out W hS
       skip
       go_wp2
       exact⟨rfl,rfl,Qz⟩
     intro w9 hS9
     have HS9:=Lib.hid hS9
     have z1:=HCL.out w9 hS9
     clear hS9
     cases found
     ·skip
      have HB2:=Lib.hid (show BestI zs [] (k+1) z true from by simpa using HST.out)
      clear HST
      simp only[QU,Zj,Act.put]
      go_wp2_with fail
      exact⟨⟨k+1,z,true,by omega,by go_num,rfl,rfl,HB2,HS9⟩,by simp[intOf];omega⟩
     ·cases l
      ·skip
       have HB2:=Lib.hid (show BestI zs [] (k+1) best true from by simpa using HST.out)
       clear HST
       simp only[QU,Zj,Act.put]
       go_wp2_with fail
       exact⟨⟨k+1,best,true,by omega,by go_num,rfl,rfl,HB2,HS9⟩,by simp[intOf];omega⟩
      ·skip
       have HB2:=Lib.hid (show BestI zs [] (k+1) z true from by simpa using HST.out)
       clear HST
       simp only[QU,Zj,Act.put]
       go_wp2_with fail
       exact⟨⟨k+1,z,true,by omega,by go_num,rfl,rfl,HB2,HS9⟩,by simp[intOf];omega⟩
    ·have hlast:os.getLast? = some o:=by rw[he];simp
     have hcd:=cand_last (z:=z) HU.out.up hlast
     obtain⟨t,ht⟩:∃ t,os.length=t+1:=⟨os'.length,by rw[he];simp⟩
     have hot:os[t]? = some o:=by
      have:t=os'.length:=by rw[he]at ht;simp at ht;omega
      rw[he,this];simp
     rw[hcd]at HST
     have hgt:=gtr_ltB z o
     obtain⟨cb,hcb⟩:∃ cb,cb=KQ o z:=⟨_,rfl⟩
     rw[←hcb]at HST hgt
     obtain⟨ob,q0,hO⟩:∃ ob q0,(Value.slice O os.length q)=.slice (some ⟨ob,0,none⟩) os.length q0:=by
      have h9:=HSr.out.o
      rw[ht]at h9 ⊢
      obtain⟨g9,c9,e9⟩:=ownsRow_succ h9
      exact⟨g9,c9,e9⟩
     injection hO with hO1 hO2 hO3
     subst hO1;subst hO3
     have hco:∀ W,UnS w w4 zs (some ⟨pb,po,none⟩) N os (.slice (some ⟨ob,0,none⟩) os.length q) W→W.cell? ⟨ob,t,none⟩=some (.string o):=fun W hS=>by
      have h9:=Reads.of_own hS.o
      obtain⟨b',o',e9,hc9⟩:=h9.2 (by omega)
      injection e9 with e9
      injection e9 with e1 e2 _
      subst e1;subst e2
      have:=hc9 t (.string o) (by rw[List.getElem?_map,hot];rfl)
      rw[Nat.zero_add]at this
      exact this
     have HCO:=Lib.hid hco
     have q1:((os.length:Int)==0)=false:=beq_eq_false_iff_ne.2 (by omega)
     have q2:decide ((os.length:Int)=0)=false:=decide_eq_false (by omega)
     have q3:((os.length:Int)-1)=(t:Int):=by omega
     have q4:(0:Int)≤(t:Int):=by omega
     have q5:(t:Int)<(os.length:Int):=by omega
     clear he hlast hcd ht hot hcb hco
     go_upto_region 9 with fail
     refine Xo 16 (by kernel_rfl) (by kernel_rfl) (by kernel_rfl) (fun q9=>[.slice (some ⟨ob,0,none⟩) os.length q,.int .i64 os.length,.bool false,.bool false,.slice (some ⟨pb,po,none⟩) N cA,.int .i64 k,.pointer (some ⟨pb,po+k,none⟩),.string z,.slice (some ⟨ob,0,none⟩) os.length q,.slice (some ⟨ob,0,none⟩) os.length q,.int .i64 os.length,.int .i64 t,.pointer (some ⟨ob,t,none⟩),.string o,.bool cb,.bool cb].getD q9 undef) (UnS w w4 zs (some ⟨pb,po,none⟩) N os (.slice (some ⟨ob,0,none⟩) os.length q)) (HSr.out.keep (RowKit.Below.drew (RowKit.Below.refl _ _))) (fun _ _ h hb=>h.keep hb) ?_ ?_
     ·simp only[QU,Zj,Act.put]
      refine⟨fun W hS=>?_,fun W hS=>?_,fun W hS=>?_,fun W hS=>?_,fun W hS=>?_,fun W hS=>?_,fun W hS=>?_,fun W hS=>?_,fun W hS=>?_,fun W hS=>?_,fun W hS=>?_,fun W hS=>?_,fun W hS=>?_,fun W hS=>?_,fun W hS=>?_,fun W hS=>?_,trivial⟩
      all_goals
       have z1:=HCL.out W hS
       have z2:=HCO.out W hS
       go_wp2
       exact⟨rfl,rfl,Qz⟩
     intro w9 hS9
     have HS9:=Lib.hid hS9
     have z1:=HCL.out w9 hS9
     clear hS9
     cases cb
     ·skip
      have HB2:=Lib.hid (show BestI zs os (k+1) best found from by simpa using HST.out)
      clear HST
      simp only[QU,Zj,Act.put]
      go_wp2_with fail
      exact⟨⟨k+1,best,found,by omega,by go_num,rfl,rfl,HB2,HS9⟩,by simp[intOf];omega⟩
     ·skip
      cases found
      ·skip
       have HB2:=Lib.hid (show BestI zs os (k+1) z true from by simpa using HST.out)
       clear HST
       simp only[QU,Zj,Act.put]
       go_wp2_with fail
       exact⟨⟨k+1,z,true,by omega,by go_num,rfl,rfl,HB2,HS9⟩,by simp[intOf];omega⟩
      ·cases l
       ·skip
        have HB2:=Lib.hid (show BestI zs os (k+1) best true from by simpa using HST.out)
        clear HST
        simp only[QU,Zj,Act.put]
        go_wp2_with fail
        exact⟨⟨k+1,best,true,by omega,by go_num,rfl,rfl,HB2,HS9⟩,by simp[intOf];omega⟩
       ·skip
        have HB2:=Lib.hid (show BestI zs os (k+1) z true from by simpa using HST.out)
        clear HST
        simp only[QU,Zj,Act.put]
        go_wp2_with fail
        exact⟨⟨k+1,z,true,by omega,by go_num,rfl,rfl,HB2,HS9⟩,by simp[intOf];omega⟩
   ·obtain rfl:k=N:=by omega
    have hbst:=HBst.out
    rw[show k=zs.length from HZL.out.symm]at hbst
    cases found
    ·have hm:=un_done HU.out hbst
     have hfin:=HP.out os O q wr HU.out hm HSr.out.b (Reads.of_own HSr.out.o)
     have HFI:=Lib.hid hfin
     clear hfin hm hbst
     go_wp2_with fail
     exact HFI.out
    ·have hun:=un_step HU.out hbst
     have HU2:=Lib.hid hun
     have hsr:=HSr.out.s
     clear hun hbst
     go_wp2_with (at_builtin;refine wpList_append_own _ rfl _ _ 22 rfl w4.heap.size 9 i0 (.string ⟨#[]⟩) 1 16 Tryz.underlying22 HI.out.1 HI.out.2.1 HI.out.2.2.1 HI.out.2.2.2 rfl (by decide) _ _ _ rfl (HSr.out.o.alloc _) ⟨wr.heap.size,0,none⟩ 1 1 [.string best] rfl rfl (Vz _ _ _ _ rfl) (by simp[Value.oneCell']) (by unfold maxLen;omega) (by omega) (by simp;omega) ?_;intro v' w8 hown' hgrow _;obtain⟨g',cap',rfl⟩:=ownsRow_succ hown')
     have hb8:RowKit.Below w4.heap.size wr w8:=((RowKit.Below.refl w4.heap.size wr).alloc (by omega) _).grown hgrow (by simp;omega) (fun r e=>Qu HSr.out.o r e)
     have hs8:=hb8.size
     have hll:(os++[best]).length=os.length+1:=by simp
     exact⟨⟨os++[best],some ⟨g',0,none⟩,cap',by rw[hll],HU2,Lib.hid ⟨HSr.out.r4,HSr.out.h4,by rw[hll,List.map_append];exact hown',HSr.out.b4.trans hb8⟩⟩,by show k+1-(os.length+1)<k+1-os.length;omega⟩
end Go.Proofs.YticlbkficolocaaGreatDoor
