/- The specification's Parse. -/
import Derived.Test.YtlkbkclnbppigaaGreatDoorRY3
import Derived.Test.YtlkbkclnbppigaaGreatDoorCards
import Derived.Test.YtlkbkclnbppigaaGreatDoorTie
set_option maxHeartbeats 32000000
namespace Go.Proofs.YtlkbkclnbppigaaGreatDoor
open Go.RowKit Go.Sort
set_option linter.unusedVariables false
set_option linter.unusedSimpArgs false
set_option maxRecDepth 100000
def NwT (n1:Nat):Value→World→Prop:=fun v W=>∃ g,v=.pointer (some ⟨g,0,none⟩)∧n1≤g∧aQ W g 32 (#[.int .i64 0,.int .i64 0,.string ⟨#[]⟩,.slice none 0 0,.int .u8 0,.int .u8 0,.int .u8 0,.int .u8 0,.int .u8 0,.int .u8 0,.int .u8 0,.int .u8 0,.int .u8 0,.int .u8 0,.int .u8 0,.int .u8 0,.int .u8 0,.int .u8 0,.int .u8 0,.int .u8 0]:Array Value)
theorem keeps_nwt (n1:Nat):sV (NwT n1):=fun _ _ _ ⟨g,e,h,hx⟩ hb=>⟨g,e,h,hx.keep hb⟩
theorem rParse25_any (s:aC) (w:World) (hs:s.size≤3000) :
  Calls Tryz.prog 38 #[.string s] w (RTokPost (pz s).1 (pz s).2 w):=by
 obtain⟨R,hRR⟩:∃ R,R=RTokPost (pz s).1 (pz s).2 w:=⟨_,rfl⟩
 rw[←hRR]
 have hdie:readTR s=none→R=RTokPost iK 3 w:=fun h=>by rw[hRR,ZE (by omega) (by rw[readT_eq];exact h)]
 have hgo:∀ t,readTR s=some t→R=RTokPost t 0 w:=fun t h=>by rw[hRR,OD (by omega) (by rw[readT_eq];exact h)]
 have hfl:=fun W=>rFields25_any s W (by omega)
 have hfs:∀ x∈splitB 59 s,x.size≤3000:=fun x hx=>by have:=oU 59 s x hx;omega
 have hnl:=qM 59 s
 unfold GZ at hfl
 rw[readTR_C]at hdie hgo
 generalize splitB 59 s=F at *
 have HDIE:=Lib.hid hdie;have HGO:=Lib.hid hgo;have HFS:=Lib.hid hfs
 clear hdie hgo hfs hRR
 obtain⟨n,hn⟩:∃ n,n=F.length:=⟨_,rfl⟩
 rw[←hn]at hfl hnl
 have HF:=Lib.hid hfl
 have HN:=Lib.hid hn
 have HEO:=Lib.hid (show ((#[.int .i64 0,.int .i64 0,.string ⟨#[]⟩,.slice none 0 0,.int .u8 0,.int .u8 0,.int .u8 0,.int .u8 0,.int .u8 0,.int .u8 0,.int .u8 0,.int .u8 0,.int .u8 0,.int .u8 0,.int .u8 0,.int .u8 0,.int .u8 0,.int .u8 0,.int .u8 0,.int .u8 0,.int .i64 3]:Array Value):Array Value).all (·.oneCell')=true by rw[List.all_toArray];rfl)
 clear hn hfl
 have i1:¬ (131072:Int)<(s.size:Int):=by omega
 go_enter Tryz.func38,Tryz.ntmps38
 go_upto_region 1 with fail
 generalize hw0:World.alloc _ _=w0
 have hE0:E0 w w0:=by rw[←hw0];exact⟨heap_alloc_new w _,aJ⟩
 have hz0:w0.heap.size=w.heap.size+1:=by rw[←hw0];simp
 clear hw0
 go_upto_region 4 with (go_at_call 80;refine (HF.out _).mono ?_;rintro e w1 ⟨A0,c0,rfl,hown0,hb1⟩)
 clear HF i1
 have hE1:=hE0.keep hb1
 have hR1:=aI.of_own hown0
 have hlow:∀ a,A0=some a→w.heap.size<a.block:=fun a ha=>by have:=(Ky hown0 a.block (by rw[ha];rfl)).1;omega
 have hz1:=hb1.size
 clear hown0 hb1 hE0
 by_cases hn5:5≤n∧n≤20
 rotate_left
 ·have HR:=Lib.hid <| HDIE.out (if_neg (by
   intro h
   simp only[Bool.and_eq_true]at h
   have:=h.1
   unfold okF at this
   simp only[Bool.and_eq_true,decide_eq_true_eq]at this
   have:=this.1.1.1
   rw[←HN.out]at this
   exact hn5 this))
  have HEE:=Lib.hid hE1
  clear HDIE HGO hE1 hR1 hlow
  by_cases h5n:(n:Int)<5
  ·go_wp2_with (refine wpList_store_row rfl 40 _ _ rfl w.heap.size (#[.int .i64 0,.int .i64 0,.string ⟨#[]⟩,.slice none 0 0,.int .u8 0,.int .u8 0,.int .u8 0,.int .u8 0,.int .u8 0,.int .u8 0,.int .u8 0,.int .u8 0,.int .u8 0,.int .u8 0,.int .u8 0,.int .u8 0,.int .u8 0,.int .u8 0,.int .u8 0,.int .u8 0,.int .i64 3]:Array Value) rfl rfl _ (#[.int .i64 0,.int .i64 0,.string ⟨#[]⟩,.slice none 0 0,.int .u8 0,.int .u8 0,.int .u8 0,.int .u8 0,.int .u8 0,.int .u8 0,.int .u8 0,.int .u8 0,.int .u8 0,.int .u8 0,.int .u8 0,.int .u8 0,.int .u8 0,.int .u8 0,.int .u8 0,.int .u8 0,.int .i64 0]:Array Value) HEE.out.e infMade rfl HEO.out ?_)
   (rw[HR.out];exact bodyPost_ret (v:=.agg (#[.int .i64 0,.int .i64 0,.string ⟨#[]⟩,.slice none 0 0,.int .u8 0,.int .u8 0,.int .u8 0,.int .u8 0,.int .u8 0,.int .u8 0,.int .u8 0,.int .u8 0,.int .u8 0,.int .u8 0,.int .u8 0,.int .u8 0,.int .u8 0,.int .u8 0,.int .u8 0,.int .u8 0,.int .i64 3]:Array Value)) (results_cell1 rfl _ _ w.heap.size _ rfl (made_load (setRow_heap _ _ _ _ _ _ HEE.out.e) rfl)) rfl ⟨below_setRow HEE.out.b (Nat.le_refl _) _,vZ,rfl,yz _,rfl⟩)
  ·have i3:(20:Int)<(n:Int):=by omega
   go_wp2_with (refine wpList_store_row rfl 40 _ _ rfl w.heap.size (#[.int .i64 0,.int .i64 0,.string ⟨#[]⟩,.slice none 0 0,.int .u8 0,.int .u8 0,.int .u8 0,.int .u8 0,.int .u8 0,.int .u8 0,.int .u8 0,.int .u8 0,.int .u8 0,.int .u8 0,.int .u8 0,.int .u8 0,.int .u8 0,.int .u8 0,.int .u8 0,.int .u8 0,.int .i64 3]:Array Value) rfl rfl _ (#[.int .i64 0,.int .i64 0,.string ⟨#[]⟩,.slice none 0 0,.int .u8 0,.int .u8 0,.int .u8 0,.int .u8 0,.int .u8 0,.int .u8 0,.int .u8 0,.int .u8 0,.int .u8 0,.int .u8 0,.int .u8 0,.int .u8 0,.int .u8 0,.int .u8 0,.int .u8 0,.int .u8 0,.int .i64 0]:Array Value) HEE.out.e infMade rfl HEO.out ?_)
   (rw[HR.out];exact bodyPost_ret (v:=.agg (#[.int .i64 0,.int .i64 0,.string ⟨#[]⟩,.slice none 0 0,.int .u8 0,.int .u8 0,.int .u8 0,.int .u8 0,.int .u8 0,.int .u8 0,.int .u8 0,.int .u8 0,.int .u8 0,.int .u8 0,.int .u8 0,.int .u8 0,.int .u8 0,.int .u8 0,.int .u8 0,.int .u8 0,.int .i64 3]:Array Value)) (results_cell1 rfl _ _ w.heap.size _ rfl (made_load (setRow_heap _ _ _ _ _ _ HEE.out.e) rfl)) rfl ⟨below_setRow HEE.out.b (Nat.le_refl _) _,vZ,rfl,yz _,rfl⟩)
 obtain⟨gF,oF,rfl,_⟩:=hR1.2 (by omega)
 have hgF:w.heap.size<gF:=hlow _ rfl
 obtain⟨z,hz⟩:∃ z,F[n-1]? = some z:=⟨_,List.getElem?_eq_getElem (by have:=HN.out;omega)⟩
 have HZ:=Lib.hid hz
 have hgFl:gF<w1.heap.size:=qx (by decide) hR1 (by omega) _ rfl
 have hcl:∀ (k:Nat) (x:aC),F[k]? = some x→∀ W,aI W 1 (some ⟨gF,oF,none⟩) n (F.map .string)→W.cell? ⟨gF,oF+k,none⟩=some (.string x):=fun k x hx W hW=>by
  obtain⟨b,o,e,hc⟩:=hW.2 (by omega)
  injection e with e
  injection e with e1 e2
  subst e1;subst e2
  exact hc k (.string x) (by rw[List.getElem?_map,hx];rfl)
 have hzc:=hcl (n-1) z hz w1 hR1
 have i3:¬ (n:Int)<5:=by omega
 have i4:¬ (20:Int)<(n:Int):=by omega
 have j1:(0:Int)≤(n:Int)-1:=by omega
 have j2:(n:Int)-1<(n:Int):=by omega
 have j3:n-1<n:=by omega
 clear hlow hz
 by_cases hz32:z.size=32
 rotate_left
 ·have HR:=Lib.hid <| HDIE.out (if_neg (by
   intro h
   simp only[Bool.and_eq_true]at h
   exact hz32 ((zC HN.out.symm hn5.1 hn5.2 HZ.out).1 h.1).2.1))
  have d1:((z.size:Int)==32)=false:=by simp;omega
  have HEE:=Lib.hid hE1
  clear HDIE HGO hE1 hR1 hcl
  go_wp2_with (refine wpList_store_row rfl 40 _ _ rfl w.heap.size (#[.int .i64 0,.int .i64 0,.string ⟨#[]⟩,.slice none 0 0,.int .u8 0,.int .u8 0,.int .u8 0,.int .u8 0,.int .u8 0,.int .u8 0,.int .u8 0,.int .u8 0,.int .u8 0,.int .u8 0,.int .u8 0,.int .u8 0,.int .u8 0,.int .u8 0,.int .u8 0,.int .u8 0,.int .i64 3]:Array Value) rfl rfl _ (#[.int .i64 0,.int .i64 0,.string ⟨#[]⟩,.slice none 0 0,.int .u8 0,.int .u8 0,.int .u8 0,.int .u8 0,.int .u8 0,.int .u8 0,.int .u8 0,.int .u8 0,.int .u8 0,.int .u8 0,.int .u8 0,.int .u8 0,.int .u8 0,.int .u8 0,.int .u8 0,.int .u8 0,.int .i64 0]:Array Value) HEE.out.e infMade rfl HEO.out ?_)
  (rw[HR.out];exact bodyPost_ret (v:=.agg (#[.int .i64 0,.int .i64 0,.string ⟨#[]⟩,.slice none 0 0,.int .u8 0,.int .u8 0,.int .u8 0,.int .u8 0,.int .u8 0,.int .u8 0,.int .u8 0,.int .u8 0,.int .u8 0,.int .u8 0,.int .u8 0,.int .u8 0,.int .u8 0,.int .u8 0,.int .u8 0,.int .u8 0,.int .i64 3]:Array Value)) (results_cell1 rfl _ _ w.heap.size _ rfl (made_load (setRow_heap _ _ _ _ _ _ HEE.out.e) rfl)) rfl ⟨below_setRow HEE.out.b (Nat.le_refl _) _,vZ,rfl,yz _,rfl⟩)
 have d1:((z.size:Int)==32)=true:=by simp;omega
 go_upto_region 6 with fail
 clear hzc d1
 have hcl2:∀ (k:Nat),k<n→∃ x,F[k]? = some x∧∀ W,aI W 1 (some ⟨gF,oF,none⟩) n (F.map .string)→W.cell? ⟨gF,oF+k,none⟩=some (.string x):=fun k hk=>by
  obtain⟨x,hx⟩:∃ x,F[k]? = some x:=⟨_,List.getElem?_eq_getElem (by rw[←HN.out];exact hk)⟩
  exact⟨x,hx,hcl k x hx⟩
 obtain⟨x0,hx0,hc0⟩:=hcl2 0 (by omega)
 obtain⟨x1,hx1,hc1⟩:=hcl2 1 (by omega)
 obtain⟨x2,hx2,hc2⟩:=hcl2 2 (by omega)
 have g0:F.getD 0 aT=x0:=by rw[List.getD_eq_getElem?_getD,hx0];rfl
 have g1:F.getD 1 aT=x1:=by rw[List.getD_eq_getElem?_getD,hx1];rfl
 have g2:F.getD 2 aT=x2:=by rw[List.getD_eq_getElem?_getD,hx2];rfl
 have z0:=HFS.out x0 (List.mem_of_getElem? hx0)
 have z1:=HFS.out x1 (List.mem_of_getElem? hx1)
 have hnu0:=fun (W:World)=>rNumber25_any x0 W (by omega)
 have hnu1:=fun (W:World)=>rNumber25_any x1 W (by omega)
 obtain⟨N0,hN0⟩:∃ N0,N0=decTk x0:=⟨_,rfl⟩
 obtain⟨N1,hN1⟩:∃ N1,N1=decTk x1:=⟨_,rfl⟩
 rw[←hN0]at hnu0
 rw[←hN1]at hnu1
 rw[Nat.add_zero]at hc0
 have HX0:=Lib.hid hc0;have HX1:=Lib.hid hc1;have HX2:=Lib.hid hc2;have HG0:=Lib.hid g0;have HG1:=Lib.hid g1;have HG2:=Lib.hid g2
 have HN0:=Lib.hid hN0;have HN1:=Lib.hid hN1;have HNU0:=Lib.hid hnu0;have HNU1:=Lib.hid hnu1
 clear hcl hcl2 hc0 hc1 hc2 hx0 hx1 hx2 g0 g1 g2 hN0 hN1 hnu0 hnu1 z0 z1
 have i0:(0:Int)<(n:Int):=by omega
 have i5:(1:Int)<(n:Int):=by omega
 have i6:(2:Int)<(n:Int):=by omega
 have i7:0<n:=by omega
 have i8:1<n:=by omega
 have i9:2<n:=by omega
 obtain⟨n1,hn1⟩:∃ n1,n1=w1.heap.size:=⟨_,rfl⟩
 refine qm 13 (by kernel_rfl) (by kernel_rfl) (by kernel_rfl) (DL [IsV (.slice (some ⟨gF,oF,none⟩) n c0),IsV (.pointer (some ⟨gF,oF,none⟩)),IsV (.string x0),IsV (.int .i64 N0),IsV (.slice (some ⟨gF,oF,none⟩) n c0),IsV (.pointer (some ⟨gF,oF+1,none⟩)),IsV (.string x1),IsV (.int .i64 N1),IsV (.slice (some ⟨gF,oF,none⟩) n c0),IsV (.pointer (some ⟨gF,oF+2,none⟩)),IsV (.string x2),IsV (.agg #[.int .i64 N0,.int .i64 N1,.string x2,.slice none 0 0,.int .u8 0,.int .u8 0,.int .u8 0,.int .u8 0,.int .u8 0,.int .u8 0,.int .u8 0,.int .u8 0,.int .u8 0,.int .u8 0,.int .u8 0,.int .u8 0,.int .u8 0,.int .u8 0,.int .u8 0,.int .u8 0]),NwT n1]) (DL.keep _ (by simp only[qp];repeat' (first | apply And.intro | exact vU _ | exact keeps_nwt _ | exact trivial))) (fun W=>E0 w W∧aI W 1 (some ⟨gF,oF,none⟩) n (F.map .string)∧n1≤W.heap.size) ?s0 (fun _ _ h hb=>⟨h.1.keep hb,h.2.1.keep hb,Nat.le_trans h.2.2 hb.size⟩) ?_ ?_
 case s0=>exact⟨hE1.keep (Below.drew (Below.refl _ _)),hR1.keep (Below.drew (Below.refl _ _)),Nat.le_of_eq hn1⟩
 ·clear hE1 hR1 HDIE HGO hn1
  dsimp only[List.take_succ_cons,List.take_zero,mf]
  refine⟨fun vals W hS hd=>?_,fun vals W hS hd=>?_,fun vals W hS hd=>?_,fun vals W hS hd=>?_,fun vals W hS hd=>?_,fun vals W hS hd=>?_,fun vals W hS hd=>?_,fun vals W hS hd=>?_,fun vals W hS hd=>?_,fun vals W hS hd=>?_,fun vals W hS hd=>?_,fun vals W hS hd=>?_,fun vals W hS hd=>?_,trivial⟩
  rotate_left 2
  ·(try simp only[bQ,DL,IsV,List.getD_cons_zero,List.getD_cons_succ,Region.binds,and_true,true_and]at hd)
   simp only[aZ,List.take_succ_cons,List.take_zero,List.drop_succ_cons,List.drop_zero,Act.put,List.setIfInBounds_toArray,List.set_cons_succ,List.set_cons_zero,List.getD_cons_zero,List.getD_cons_succ]
   (try simp only[hd])
   clear hd
   have hc:=HX0.out W hS.2.1
   go_wp2
   exact⟨rfl,rfl,rfl,aJ⟩
  ·(try simp only[bQ,DL,IsV,List.getD_cons_zero,List.getD_cons_succ,Region.binds,and_true,true_and]at hd)
   simp only[aZ,List.take_succ_cons,List.take_zero,List.drop_succ_cons,List.drop_zero,Act.put,List.setIfInBounds_toArray,List.set_cons_succ,List.set_cons_zero,List.getD_cons_zero,List.getD_cons_succ]
   (try simp only[hd])
   clear hd
   go_wp2_with (go_at_call 81;refine (HNU0.out _).mono ?_;rintro e w5 ⟨rfl,hb5⟩)
   exact⟨rfl,rfl,rfl,aJ⟩
  rotate_left 2
  ·(try simp only[bQ,DL,IsV,List.getD_cons_zero,List.getD_cons_succ,Region.binds,and_true,true_and]at hd)
   simp only[aZ,List.take_succ_cons,List.take_zero,List.drop_succ_cons,List.drop_zero,Act.put,List.setIfInBounds_toArray,List.set_cons_succ,List.set_cons_zero,List.getD_cons_zero,List.getD_cons_succ]
   (try simp only[hd])
   clear hd
   have hc:=HX1.out W hS.2.1
   go_wp2
   exact⟨rfl,rfl,rfl,aJ⟩
  ·(try simp only[bQ,DL,IsV,List.getD_cons_zero,List.getD_cons_succ,Region.binds,and_true,true_and]at hd)
   simp only[aZ,List.take_succ_cons,List.take_zero,List.drop_succ_cons,List.drop_zero,Act.put,List.setIfInBounds_toArray,List.set_cons_succ,List.set_cons_zero,List.getD_cons_zero,List.getD_cons_succ]
   (try simp only[hd])
   clear hd
   go_wp2_with (go_at_call 81;refine (HNU1.out _).mono ?_;rintro e w5 ⟨rfl,hb5⟩)
   exact⟨rfl,rfl,rfl,aJ⟩
  rotate_left 2
  ·(try simp only[bQ,DL,IsV,List.getD_cons_zero,List.getD_cons_succ,Region.binds,and_true,true_and]at hd)
   simp only[aZ,List.take_succ_cons,List.take_zero,List.drop_succ_cons,List.drop_zero,Act.put,List.setIfInBounds_toArray,List.set_cons_succ,List.set_cons_zero,List.getD_cons_zero,List.getD_cons_succ]
   (try simp only[hd])
   clear hd
   have hc:=HX2.out W hS.2.1
   go_wp2
   exact⟨rfl,rfl,rfl,aJ⟩
  ·(try simp only[bQ,DL,IsV,List.getD_cons_zero,List.getD_cons_succ,Region.binds,and_true,true_and]at hd)
   obtain⟨e1,e2,e3⟩:=hd
   simp only[aZ,List.take_succ_cons,List.take_zero,List.drop_succ_cons,List.drop_zero,Act.put,List.setIfInBounds_toArray,List.set_cons_succ,List.set_cons_zero,List.getD_cons_zero,List.getD_cons_succ]
   (try simp only[e1,e2,e3])
   clear e1 e2 e3
   go_wp2
   exact⟨rfl,rfl,rfl,aJ⟩
  ·(try simp only[bQ,DL,IsV,List.getD_cons_zero,List.getD_cons_succ,Region.binds,and_true,true_and]at hd)
   simp only[aZ,List.take_succ_cons,List.take_zero,List.drop_succ_cons,List.drop_zero,Act.put,List.setIfInBounds_toArray,List.set_cons_succ,List.set_cons_zero,List.getD_cons_zero,List.getD_cons_succ]
   (try simp only[hd])
   clear hd
   have hsz:=hS.2.2
   go_wp2
   exact⟨rfl,⟨_,rfl,hsz,heap_alloc_new W _⟩,rfl,aJ⟩
  all_goals
   (try simp only[bQ,DL,IsV,List.getD_cons_zero,List.getD_cons_succ,Region.binds,and_true,true_and]at hd)
   simp only[aZ,List.take_succ_cons,List.take_zero,List.drop_succ_cons,List.drop_zero,Act.put,List.setIfInBounds_toArray,List.set_cons_succ,List.set_cons_zero,List.getD_cons_zero,List.getD_cons_succ]
   (try simp only[hd])
   clear hd
   go_wp2
   exact⟨rfl,rfl,rfl,aJ⟩
 ·intro vals w9 hS9 hD9
  have e11:vals 11=.agg #[.int .i64 N0,.int .i64 N1,.string x2,.slice none 0 0,.int .u8 0,.int .u8 0,.int .u8 0,.int .u8 0,.int .u8 0,.int .u8 0,.int .u8 0,.int .u8 0,.int .u8 0,.int .u8 0,.int .u8 0,.int .u8 0,.int .u8 0,.int .u8 0,.int .u8 0,.int .u8 0]:=hD9 11 (by omega)
  obtain⟨gT,e12,hgT,hbT⟩:NwT n1 (vals 12) w9:=hD9 12 (by omega)
  simp only[aZ,List.take_succ_cons,List.take_zero,List.drop_succ_cons,List.drop_zero,Act.put,List.setIfInBounds_toArray,List.set_cons_succ,List.set_cons_zero,List.getD_cons_zero,List.getD_cons_succ]
  simp only[e11,e12,Nat.zero_add,Nat.reduceAdd]
  clear hD9 e11 e12
  obtain⟨n0,hn0⟩:∃ n0,n0=w9.heap.size:=⟨_,rfl⟩
  have hgTl:gT<w9.heap.size:=vV hbT
  have hoo:w.heap.size<gT∧gT<n0∧w.heap.size<gF∧gF<n0∧gT≠gF:=⟨by omega,by omega,hgF,by have:=hS9.2.2;omega,by omega⟩
  have hP9:RcS w gT gF oF n0 F n N0 N1 x2 fH 0 [] none 0 (w9.setRow gT (bn N0 N1 x2 none 0 0 fH).toArray):=by
   have hother:∀ j,j≠gT→(w9.setRow gT (bn N0 N1 x2 none 0 0 fH).toArray).heap[j]? = w9.heap[j]?:=fun j hj=>setRow_other _ _ _ _ hj
   refine⟨⟨(hother _ (by omega)).trans hS9.1.e,below_setRow hS9.1.b (by omega) _⟩,setRow_heap _ _ _ _ _ _ hbT,qw (g:=gT) (fun j hj=>hother j hj) hS9.2.1 (fun _ a e=>by injection e with e;subst e;show gF≠_;omega),World.ownsRow_nil _ _ _ _,fun y hy=>by (cases hy),fun y hy=>by (cases hy),fun y hy=>by (cases hy),rfl,rfl,fun y hy=>by (cases hy),?_,hoo⟩
   rw[size_setRow];omega
  have HP9:=Lib.hid hP9
  have HT9:=Lib.hid hbT
  have hone:(bn N0 N1 x2 none 0 0 fH).toArray.all (·.oneCell')=true:=mi N0 N1 x2 none 0 0 fH
  have HON:=Lib.hid hone
  have HOO:=Lib.hid hoo
  clear hP9 hS9 hone HX0 HX1 HX2 HNU0 HNU1 hbT hoo hgT hgTl hgF hgFl hn0 hn1 hE1 hR1
  go_upto_region 7 with (refine wpList_store_row rfl 32 _ _ rfl gT (bn N0 N1 x2 none 0 0 fH).toArray rfl rfl _ (#[.int .i64 0,.int .i64 0,.string ⟨#[]⟩,.slice none 0 0,.int .u8 0,.int .u8 0,.int .u8 0,.int .u8 0,.int .u8 0,.int .u8 0,.int .u8 0,.int .u8 0,.int .u8 0,.int .u8 0,.int .u8 0,.int .u8 0,.int .u8 0,.int .u8 0,.int .u8 0,.int .u8 0]:Array Value) HT9.out lC rfl HON.out ?_)
  clear HT9 HON
  generalize World.setRow _ _ _=wa at *
  have hcp:=fun (x:aC) (hx:x∈F) (W:World)=>rParse21F_any x W (by have:=HFS.out x hx;omega)
  have HCP:=Lib.hid hcp
  obtain⟨ii,hi0,hz0,hz1,hz2⟩:=info_parts DT
  have HI:=Lib.hid (And.intro hi0 (And.intro hz0 (And.intro hz1 hz2)))
  clear hi0 hz0 hz1 hz2 hcp
  go_wp2
  go_loopw [5] (fun vi wr=>∃ (i k:Nat) (L:List CoM) (A:Option Addr) (c:Nat),(vi=.int .i64 i∧i=3+k∧k≤n-4)∧Hid (RcS w gT gF oF n0 F n N0 N1 x2 fH k L A c wr)) (fun vi _=>n-(intOf vi).toNat)
  case atStart=>exact⟨3,0,[],none,0,⟨rfl,rfl,Nat.zero_le _⟩,HP9⟩
  case round =>
   obtain⟨i,k,L,A,c,⟨rfl,hik,hk⟩,HS⟩:=hrel
   clear HP9
   by_cases hlt:k<n-4
   ·obtain⟨x,hx⟩:∃ x,F[3+k]? = some x:=⟨_,List.getElem?_eq_getElem (by have:=HN.out;omega)⟩
    have hcl:=HS.out.field hx (by omega)
    rw[←hik]at hcl
    have hk0:(0:Int)≤(i:Int):=by omega
    have hk1:(i:Int)<(n:Int)-1:=by omega
    have hk2:(i:Int)<(n:Int):=by omega
    have HIK:=Lib.hid hik
    clear hik
    have hcx:=HCP.out x (List.mem_of_getElem? hx) wr
    rw[show (pU x).getD ed=cvF x by unfold cvF;rw[Vp]]at hcx
    have HXX:=Lib.hid hx
    cases hok:(eF x).isSome
    ·have HR:=Lib.hid <| HDIE.out (if_neg (by
      intro h
      simp only[Bool.and_eq_true]at h
      exact ZJ hx hlt hok ((zC HN.out.symm hn5.1 hn5.2 HZ.out).1 h.1).1))
     rw[←Vp,hok,if_neg (by decide)]at hcx
     have HCX:=Lib.hid hcx
     clear hcx hx hok HDIE HGO
     go_upto_region 11 with (first
      | (go_at_call 82;refine HCX.out.mono ?_;rintro e w3 ⟨hb3,m,rfl,hr3,hf3,hf4,hf5⟩)
      | (refine wpList_store_row rfl 90 _ _ rfl w3.heap.size (meantL (cvF x) m 3).toArray rfl rfl _ (#[.int .i64 0,.int .i64 0,.string ⟨#[]⟩,.slice none 0 0,.slice none 0 0,.slice none 0 0,.int .i64 0,.int .i64 0]:Array Value) (heap_alloc_new w3 _) infMade21 rfl (meant_one _ _ _) ?_))
     (try dsimp only[Act.put])
     generalize hwb:World.setRow _ _ _=wb
     have hbb:Below w3.heap.size w3 wb:=by rw[←hwb];exact below_setRow (fJ _ _) (Nat.le_refl _) _
     have hxb:aQ wb w3.heap.size 90 (meantL (cvF x) m 3).toArray:=by rw[←hwb];exact setRow_heap _ _ _ _ _ _ (heap_alloc_new w3 _)
     have c7:=hxb.cell (k:=7) (v:=.int .i64 3) rfl
     have HEE:=Lib.hid ((HS.out.p.keep hb3).keep hbb)
     clear hwb hxb hbb hr3 hf3 hf4 hf5 HCX hcl
     go_wp2_with (refine wpList_store_row rfl 40 _ _ rfl w.heap.size (#[.int .i64 0,.int .i64 0,.string ⟨#[]⟩,.slice none 0 0,.int .u8 0,.int .u8 0,.int .u8 0,.int .u8 0,.int .u8 0,.int .u8 0,.int .u8 0,.int .u8 0,.int .u8 0,.int .u8 0,.int .u8 0,.int .u8 0,.int .u8 0,.int .u8 0,.int .u8 0,.int .u8 0,.int .i64 3]:Array Value) rfl rfl _ (#[.int .i64 0,.int .i64 0,.string ⟨#[]⟩,.slice none 0 0,.int .u8 0,.int .u8 0,.int .u8 0,.int .u8 0,.int .u8 0,.int .u8 0,.int .u8 0,.int .u8 0,.int .u8 0,.int .u8 0,.int .u8 0,.int .u8 0,.int .u8 0,.int .u8 0,.int .u8 0,.int .u8 0,.int .i64 0]:Array Value) HEE.out.e infMade rfl HEO.out ?_)
     (rw[HR.out];exact bodyPost_ret (v:=.agg (#[.int .i64 0,.int .i64 0,.string ⟨#[]⟩,.slice none 0 0,.int .u8 0,.int .u8 0,.int .u8 0,.int .u8 0,.int .u8 0,.int .u8 0,.int .u8 0,.int .u8 0,.int .u8 0,.int .u8 0,.int .u8 0,.int .u8 0,.int .u8 0,.int .u8 0,.int .u8 0,.int .u8 0,.int .i64 3]:Array Value)) (results_cell1 rfl _ _ w.heap.size _ rfl (made_load (setRow_heap _ _ _ _ _ _ HEE.out.e) rfl)) rfl ⟨below_setRow HEE.out.b (Nat.le_refl _) _,vZ,rfl,yz _,rfl⟩)
    ·rw[←Vp,hok,if_pos rfl]at hcx
     have HCX:=Lib.hid hcx;have HOK:=Lib.hid hok
     clear hcx hx hok
     go_upto_region 11 with (first
      | (go_at_call 82;refine HCX.out.mono ?_;rintro e w3 ⟨hb3,m,rfl,hr3,hf3,hf4,hf5⟩)
      | (refine wpList_store_row rfl 90 _ _ rfl w3.heap.size (meantL (cvF x) m 0).toArray rfl rfl _ (#[.int .i64 0,.int .i64 0,.string ⟨#[]⟩,.slice none 0 0,.slice none 0 0,.slice none 0 0,.int .i64 0,.int .i64 0]:Array Value) (heap_alloc_new w3 _) infMade21 rfl (meant_one _ _ _) ?_))
     (try dsimp only[Act.put])
     generalize hwb:World.setRow _ _ _=wb
     have hbb:Below w3.heap.size w3 wb:=by rw[←hwb];exact below_setRow (fJ _ _) (Nat.le_refl _) _
     have hYb:aQ wb w3.heap.size 90 (meantL (cvF x) m 0).toArray:=by rw[←hwb];exact setRow_heap _ _ _ _ _ _ (heap_alloc_new w3 _)
     have hS3:=(HS.out.keep hb3).keep hbb
     have hr4:=hr3.keep hbb
     have hff:sZ wr.heap.size (cvF x) m:=⟨hf3,hf4,hf5⟩
     have hlo:∀ r,(Value.slice A k c).ownBlock=some r→r<wr.heap.size:=fun r hr=>(HS.out.own.lt r hr).2
     have hya:∀ r,(Value.slice A k c).ownBlock=some r→fA r (cvF x) m:=fun r hr=>fA.of_fresh hff (hlo r hr)
     have hfr:sZ n0 (cvF x) m:=⟨fun h a e=>Nat.le_trans HS.out.sz (hf3 h a e),fun h a e=>Nat.le_trans HS.out.sz (hf4 h a e),fun h a e=>Nat.le_trans HS.out.sz (hf5 h a e)⟩
     have HS3:=Lib.hid hS3;have HR4:=Lib.hid hr4;have HYA:=Lib.hid hya;have HFR:=Lib.hid hfr;have HYB:=Lib.hid hYb
     have c3:=hS3.row3
     have c7:=hYb.cell (k:=7) (v:=.int .i64 0) rfl
     clear hwb hbb hS3 hr4 hya hfr hYb hr3 hf3 hf4 hf5 hff hb3 hlo HCX HS hcl
     go_upto_region 13 with fail
     clear c7
     have hldc:=made21_at HYB.out
     have hsz3:=HS3.out.sz
     have hbs:=fun W=>ZI (cvF x) m W
     have hone:∀ u∈(dS (cvF x) m).toList,u.oneCell'=true:=by
      intro u hu
      have:=lu (cvF x) m
      rw[Array.all_eq_true']at this
      exact this u (by simpa using hu)
     have hlen:(dS (cvF x) m).toList.length=1*7:=rfl
     have hcells:(dS (cvF x) m).toList=(⟨cvF x,m⟩:CoM).cells:=rfl
     clear HYB
     generalize dS (cvF x) m=Yi at *
     have HLDC:=Lib.hid hldc;have HSZ3:=Lib.hid hsz3;have HBS:=Lib.hid hbs;have HONE:=Lib.hid hone;have HLEN:=Lib.hid hlen;have HCEL:=Lib.hid hcells
     clear hldc hsz3 hbs hone hlen hcells
     go_wp2_with (first
      | (refine bD rfl 27 _ rfl ⟨w3.heap.size,0,none⟩ (.agg Yi) rfl HLDC.out ?_)
      | (refine Za rfl 28 1 _ rfl #[(0,.agg Yi)] (by kernel_rfl) _ _ (HBS.out _) ?_)
      | (at_builtin;refine wpList_append_lies _ rfl _ _ 28 rfl n0 27 ii (.agg #[.int .i64 0,.int .i64 0,.string ⟨#[]⟩,.slice none 0 0,.slice none 0 0,.slice none 0 0,.int .i64 0]) 7 112 Tryz.underlying28 HI.out.1 HI.out.2.1 HI.out.2.2.1 HI.out.2.2.2 rfl (by decide) (.slice A k c) k (L.flatMap CoM.cells) rfl (HS3.out.keep (fJ _ _)).own ⟨wb.heap.size,0,none⟩ 1 1 Yi.toList rfl HLEN.out (World.news_of_block (heap_alloc_new wb _)) HONE.out (by omega) (by unfold maxLen;omega) (by omega) (by have:=HSZ3.out;simp;omega) _ rfl ?_;intro g' cap' w6 hown6 hgrow6 hgg6 hlt6;have hT6:aQ w6 gT 32 (bn N0 N1 x2 A k c fH).toArray:=(hgrow6.block _ (by have:=HSZ3.out;have:=HOO.out;simp;omega) (fun e=>by have:=(HS3.out.own.lt _ e.symm).1;have:=HOO.out;omega)).trans (HS3.out.keep (fJ _ _)).t;have c6:=hT6.cell (k:=3) (v:=.slice A k c) rfl;have f6:=frozen_of_row _ _ 3 _ _ hT6))
     rw[HCEL.out]at hown6
     refine⟨⟨i+1,k+1,L++[⟨cvF x,m⟩],some ⟨g',0,none⟩,cap',⟨by go_num,by have:=HIK.out;omega,by omega⟩,Lib.hid ?_⟩,by simp[intOf];omega⟩
     have hS5:RcS w gT gF oF n0 F n N0 N1 x2 fH k L A c (wb.alloc (.cells Yi 27)):=HS3.out.keep (fJ _ _)
     exact hS5.grown (y:=⟨cvF x,m⟩) (by omega) HXX.out HOK.out rfl (HR4.out.keep (fJ _ _)) HFR.out HYA.out hown6 hgrow6 hgg6
   ·obtain rfl:k=n-4:=by omega
    have hzc:=HS.out.field HZ.out (by omega)
    have hk1:¬ (i:Int)<(n:Int)-1:=by omega
    have HIK:=Lib.hid hik
    clear hik
    obtain⟨l,hl⟩:∃ l,l=z.data.toList:=⟨_,rfl⟩
    have hll:l.length=2*16:=by rw[hl,←Lib.size_eq];omega
    have HLZ:=Lib.hid hl;have HLL:=Lib.hid hll
    clear hl hll
    go_upto_region 15 with fail
    have HS0:Hid (RcS w gT gF oF n0 F n N0 N1 x2 (jg l 0) (n-4) L A c _):=HS
    clear HS hzc
    go_wp2
    go_loopw [8] (fun vi wr=>∃ i:Nat,(vi=.int .i64 i∧i≤16)∧Hid (RcS w gT gF oF n0 F n N0 N1 x2 (jg l i) (n-4) L A c wr)∧Hid (∀ j,j<i→kY l j)) (fun vi _=>16-(intOf vi).toNat)
    case atStart=>exact⟨0,⟨rfl,Nat.zero_le _⟩,HS0,Lib.hid (fun j h=>by omega)⟩
    case round =>
     clear hk1 hk hlt
     obtain⟨i,⟨rfl,hi⟩,HSi,HOKS⟩:=hrel
     clear HS0
     by_cases hil:i<16
     ·have hk0:(0:Int)≤(i:Int):=by omega
      have hk1:(i:Int)<16:=by omega
      have hiA:=fun W=>ZL W z i hz32 hil
      have hiB:=fun W=>ZN W z i hz32 hil
      rw[←HLZ.out]at hiA hiB
      have HIA:=Lib.hid hiA;have HIB:=Lib.hid hiB
      have hia:=hiA wr
      clear hiA hiB
      go_upto_region 19 with (go_at_call 83;refine (rValue25_any (uhA l i) _).mono ?_;rintro e w5 ⟨rfl,hb5⟩)
      clear hia
      have hib:=HIB.out w5
      go_upto_region 20 with (go_at_call 83;refine (rValue25_any (uhB l i) _).mono ?_;rintro e w6 ⟨rfl,hb6⟩)
      clear hib
      have HSZ:=Lib.hid ((HSi.out.keep hb5).keep hb6)
      clear HSi HIA HIB hb5 hb6
      by_cases hok:kY l i
      rotate_left
      ·have HR:=Lib.hid <| HDIE.out (if_neg (by
        intro h
        simp only[Bool.and_eq_true]at h
        have h2:=((zC HN.out.symm hn5.1 hn5.2 HZ.out).1 h.1).2.2
        rw[←HLZ.out,Le 16 l HLL.out i hil hok]at h2
        cases h2))
       have HEE:=Lib.hid HSZ.out.p
       clear HDIE HGO HOKS
       unfold kY at hok
       generalize gy (uhA l i)=da at *
       generalize gy (uhB l i)=db at *
       by_cases ha:da<0
       ·clear hok
        go_wp2_with (refine wpList_store_row rfl 40 _ _ rfl w.heap.size (#[.int .i64 0,.int .i64 0,.string ⟨#[]⟩,.slice none 0 0,.int .u8 0,.int .u8 0,.int .u8 0,.int .u8 0,.int .u8 0,.int .u8 0,.int .u8 0,.int .u8 0,.int .u8 0,.int .u8 0,.int .u8 0,.int .u8 0,.int .u8 0,.int .u8 0,.int .u8 0,.int .u8 0,.int .i64 3]:Array Value) rfl rfl _ (#[.int .i64 0,.int .i64 0,.string ⟨#[]⟩,.slice none 0 0,.int .u8 0,.int .u8 0,.int .u8 0,.int .u8 0,.int .u8 0,.int .u8 0,.int .u8 0,.int .u8 0,.int .u8 0,.int .u8 0,.int .u8 0,.int .u8 0,.int .u8 0,.int .u8 0,.int .u8 0,.int .u8 0,.int .i64 0]:Array Value) HEE.out.e infMade rfl HEO.out ?_)
        (rw[HR.out];exact bodyPost_ret (v:=.agg (#[.int .i64 0,.int .i64 0,.string ⟨#[]⟩,.slice none 0 0,.int .u8 0,.int .u8 0,.int .u8 0,.int .u8 0,.int .u8 0,.int .u8 0,.int .u8 0,.int .u8 0,.int .u8 0,.int .u8 0,.int .u8 0,.int .u8 0,.int .u8 0,.int .u8 0,.int .u8 0,.int .u8 0,.int .i64 3]:Array Value)) (results_cell1 rfl _ _ w.heap.size _ rfl (made_load (setRow_heap _ _ _ _ _ _ HEE.out.e) rfl)) rfl ⟨below_setRow HEE.out.b (Nat.le_refl _) _,vZ,rfl,yz _,rfl⟩)
       ·have hb:db<0:=by omega
        clear hok
        go_wp2_with (refine wpList_store_row rfl 40 _ _ rfl w.heap.size (#[.int .i64 0,.int .i64 0,.string ⟨#[]⟩,.slice none 0 0,.int .u8 0,.int .u8 0,.int .u8 0,.int .u8 0,.int .u8 0,.int .u8 0,.int .u8 0,.int .u8 0,.int .u8 0,.int .u8 0,.int .u8 0,.int .u8 0,.int .u8 0,.int .u8 0,.int .u8 0,.int .u8 0,.int .i64 3]:Array Value) rfl rfl _ (#[.int .i64 0,.int .i64 0,.string ⟨#[]⟩,.slice none 0 0,.int .u8 0,.int .u8 0,.int .u8 0,.int .u8 0,.int .u8 0,.int .u8 0,.int .u8 0,.int .u8 0,.int .u8 0,.int .u8 0,.int .u8 0,.int .u8 0,.int .u8 0,.int .u8 0,.int .u8 0,.int .u8 0,.int .i64 0]:Array Value) HEE.out.e infMade rfl HEO.out ?_)
        (rw[HR.out];exact bodyPost_ret (v:=.agg (#[.int .i64 0,.int .i64 0,.string ⟨#[]⟩,.slice none 0 0,.int .u8 0,.int .u8 0,.int .u8 0,.int .u8 0,.int .u8 0,.int .u8 0,.int .u8 0,.int .u8 0,.int .u8 0,.int .u8 0,.int .u8 0,.int .u8 0,.int .u8 0,.int .u8 0,.int .u8 0,.int .u8 0,.int .i64 3]:Array Value)) (results_cell1 rfl _ _ w.heap.size _ rfl (made_load (setRow_heap _ _ _ _ _ _ HEE.out.e) rfl)) rfl ⟨below_setRow HEE.out.b (Nat.le_refl _) _,vZ,rfl,yz _,rfl⟩)
      have HOK2:=Lib.hid (ZP HOKS.out hok)
      have hput:=HSZ.out.put hil
      have hvA:=Lc hok.1
      have hvB:=Lc hok.2
      have hA16:=(pg _).1 hok.1
      have hB16:=(pg _).1 hok.2
      have huv:((uhV l i:Nat):Int)=16*((jO (uhA l i):Nat):Int)+((jO (uhB l i):Nat):Int):=by unfold uhV;omega
      rw[huv]at hput
      simp only[hvA,hvB]
      clear hvA hvB huv hok HOKS
      generalize jO (uhA l i)=a at *
      generalize jO (uhB l i)=b at *
      have HPUT:=Lib.hid hput
      clear hput
      have ha0:¬ (a:Int)<0:=by omega
      have hb0:¬ (b:Int)<0:=by omega
      have ha1:(a:Int)≤15:=by omega
      have hb1:(b:Int)≤15:=by omega
      go_upto_region 22 with fail
      obtain⟨v4,hc4⟩:=HSZ.out.byte (Lh _ _ hi) hil
      have hf4:=HSZ.out.free (4+i)
      have ha2:(0:Int)≤(a:Int):=by omega
      have hb2:(0:Int)≤(b:Int):=by omega
      go_wp2
      exact⟨⟨i+1,⟨by go_num,by omega⟩,HPUT,HOK2⟩,by simp[intOf];omega⟩
     ·obtain rfl:i=16:=by omega
      have hun:=Ld 16 l HLL.out HOKS.out
      have hsok:=Xb HOKS.out
      have hse:=XU l
      have hfit:=HSi.out.fits (fun x hx=>by have:=HFS.out x hx;omega)
      have hx2:x2.size≤3000:=by
       rw[←HG2.out,List.getD_eq_getElem?_getD,List.getElem?_eq_getElem (by have:=HN.out;omega)]
       exact HFS.out _ (List.getElem_mem _)
      rw[hse]at HSi
      generalize uhN l 16=sl at *
      obtain⟨htr,hce,hcn⟩:=HSi.out.tok hsok
      have hte:=tokF_eqN (num:=decTk) HN.out.symm hn5.1 HZ.out HG0.out HG1.out HG2.out (by rw[←HLZ.out];exact hun)
      rw[←HN0.out,←HN1.out]at hte
      have hokF:okF eF F=true:=(zC HN.out.symm hn5.1 hn5.2 HZ.out).2 ⟨HSi.out.ok,hz32,by rw[←HLZ.out,hun];rfl⟩
      obtain⟨T,hT⟩:∃ T:bz,T=⟨N0,N1,x2,((fB F).take (n-4)).map cvF,sl⟩:=⟨_,rfl⟩
      rw[←hT]at htr hce hte
      have hTn:T.conds.length=n-4:=by rw[hT];exact hcn
      have hTi:T.id=x2:=by rw[hT]
      have hv:=fun (W:World) (hb:Below wr.heap.size wr W)=>rTValid_any ⟨T,A,c,L⟩ W (htr.keep hb) hfit (by show T.id.size≤_;rw[hTi];omega) (by show T.conds.length≤_;omega)
      have hap:∀ y∈L,fA w.heap.size y.c y.m:=fun y hy=>fA.of_fresh (HSi.out.fresh y hy) (by have:=HOO.out;omega)
      have hAa:0<T.conds.length→∀ a,A=some a→a.block≠w.heap.size:=fun _ a ha=>by
       have:=(Ky HSi.out.own a.block (by rw[ha];rfl)).1
       have:=HOO.out
       omega
      unfold ah.val at hv
      rw[hce]at hv
      have hXS:(bn N0 N1 x2 A (n-4) c sl).toArray.size=20:=HSi.out.size hsok.len
      have hld:=fun (W:World) (hb:Below wr.heap.size wr W)=>dY (HSi.out.t.keep hb) hXS
      have hbm:=fun W=>run_made _ (HSi.out.size hsok.len) W
      have hms:=made_size htr 0
      have hmo:=made_one ⟨T,A,c,L⟩ 0
      have HTE:=Lib.hid hte;have HOF:=Lib.hid hokF;have HTR:=Lib.hid htr;have HCE:=Lib.hid hce;have HAP:=Lib.hid hap;have HAA:=Lib.hid hAa;have HP:=Lib.hid HSi.out.p
      generalize hXX:(bn N0 N1 x2 A (n-4) c sl).toArray=XX at *
      generalize hXM:((⟨T,A,c,L⟩:ah).cells++[Value.int .i64 0]).toArray=XM at *
      have HXX:=Lib.hid hXX;have HXM:=Lib.hid hXM;have HV:=Lib.hid hv;have HLD:=Lib.hid hld;have HMS:=Lib.hid hms;have HMO:=Lib.hid hmo
      have hld0:=hld wr (Below.refl _ _)
      clear hXS hld hv hte hokF hT htr hce hcn hfit hx2 hTi hse hun hsok hTn HOKS hap hAa hms hmo hXX hXM HSi
      cases hvt:gX T
      ·have HR:=Lib.hid <| HDIE.out (if_neg (by
        intro h
        simp only[Bool.and_eq_true]at h
        have:=h.2
        rw[HTE.out,hvt]at this
        cases this))
       rw[hvt]at HV
       clear HDIE HGO hvt
       go_upto_region 24 with (first
        | (refine bD rfl 32 _ rfl ⟨gT,0,none⟩ (.agg XX) rfl hld0 ?_)
        | (go_at_call 15;refine (HV.out _ (Below.refl _ _)).mono ?_;rintro e w7 ⟨rfl,hb7⟩))
       have HEE:=Lib.hid (HP.out.keep hb7)
       go_wp2_with (refine wpList_store_row rfl 40 _ _ rfl w.heap.size (#[.int .i64 0,.int .i64 0,.string ⟨#[]⟩,.slice none 0 0,.int .u8 0,.int .u8 0,.int .u8 0,.int .u8 0,.int .u8 0,.int .u8 0,.int .u8 0,.int .u8 0,.int .u8 0,.int .u8 0,.int .u8 0,.int .u8 0,.int .u8 0,.int .u8 0,.int .u8 0,.int .u8 0,.int .i64 3]:Array Value) rfl rfl _ (#[.int .i64 0,.int .i64 0,.string ⟨#[]⟩,.slice none 0 0,.int .u8 0,.int .u8 0,.int .u8 0,.int .u8 0,.int .u8 0,.int .u8 0,.int .u8 0,.int .u8 0,.int .u8 0,.int .u8 0,.int .u8 0,.int .u8 0,.int .u8 0,.int .u8 0,.int .u8 0,.int .u8 0,.int .i64 0]:Array Value) HEE.out.e infMade rfl HEO.out ?_)
       (rw[HR.out];exact bodyPost_ret (v:=.agg (#[.int .i64 0,.int .i64 0,.string ⟨#[]⟩,.slice none 0 0,.int .u8 0,.int .u8 0,.int .u8 0,.int .u8 0,.int .u8 0,.int .u8 0,.int .u8 0,.int .u8 0,.int .u8 0,.int .u8 0,.int .u8 0,.int .u8 0,.int .u8 0,.int .u8 0,.int .u8 0,.int .u8 0,.int .i64 3]:Array Value)) (results_cell1 rfl _ _ w.heap.size _ rfl (made_load (setRow_heap _ _ _ _ _ _ HEE.out.e) rfl)) rfl ⟨below_setRow HEE.out.b (Nat.le_refl _) _,vZ,rfl,yz _,rfl⟩)
      ·have HR:=Lib.hid <| HGO.out T (by
        rw[if_pos (by rw[HOF.out,HTE.out,hvt];rfl),HTE.out])
       rw[hvt]at HV
       clear HDIE HGO hvt
       go_upto_region 24 with (first
        | (refine bD rfl 32 _ rfl ⟨gT,0,none⟩ (.agg XX) rfl hld0 ?_)
        | (go_at_call 15;refine (HV.out _ (Below.refl _ _)).mono ?_;rintro e w7 ⟨rfl,hb7⟩))
       have HEE:=Lib.hid (HP.out.keep hb7)
       have h9:=HTR.out.keep hb7
       have H9:=Lib.hid h9
       have hld7:=HLD.out w7 hb7
       have hbm2:∀ W,(Instr.build 40 #[(0,.agg XX)]).run Tryz.prog W=.ok (.agg XM) W:=fun W=>by
        have:=run_made (⟨T,A,c,L⟩:ah).cells HTR.out.size W
        rw[HCE.out,HXM.out]at this
        exact this
       have HBM:=Lib.hid hbm2
       clear h9 hb7 hld0 hbm2
       go_wp2_with (first
        | (refine bD rfl 32 _ rfl ⟨gT,0,none⟩ (.agg XX) rfl hld7 ?_)
        | (refine wpList_build_as rfl 40 _ rfl #[(0,.agg XX)] (by kernel_rfl) _ (HBM.out _) ?_)
        | (refine wpList_store_row rfl 40 _ _ rfl w.heap.size XM rfl rfl _ (#[.int .i64 0,.int .i64 0,.string ⟨#[]⟩,.slice none 0 0,.int .u8 0,.int .u8 0,.int .u8 0,.int .u8 0,.int .u8 0,.int .u8 0,.int .u8 0,.int .u8 0,.int .u8 0,.int .u8 0,.int .u8 0,.int .u8 0,.int .u8 0,.int .u8 0,.int .u8 0,.int .u8 0,.int .i64 0]:Array Value) HEE.out.e (by rw[HMS.out];exact infMade) (by rw[HMS.out];rfl) HMO.out ?_))
       rw[HR.out]
       refine bodyPost_ret (v:=.agg XM) (results_cell1 rfl _ _ w.heap.size _ rfl (made_load (setRow_heap _ _ _ _ _ _ HEE.out.e) HMS.out)) rfl ⟨below_setRow HEE.out.b (Nat.le_refl _) _,⟨T,A,c,L⟩,by rw[HXM.out],tok_past H9.out HAA.out HAP.out,rfl⟩
theorem rParseLong_any (s:aC) (w:World) (hs:131072<s.size):Calls Tryz.prog 38 #[.string s] w (RTokPost iK 2 w):=by
 have i1:(131072:Int)<(s.size:Int):=by omega
 obtain⟨R,hRR⟩:∃ R,R=RTokPost iK 2 w:=⟨_,rfl⟩
 rw[←hRR]
 have HRR:=Lib.hid hRR
 have HLO:=Lib.hid (show ((#[.int .i64 0,.int .i64 0,.string ⟨#[]⟩,.slice none 0 0,.int .u8 0,.int .u8 0,.int .u8 0,.int .u8 0,.int .u8 0,.int .u8 0,.int .u8 0,.int .u8 0,.int .u8 0,.int .u8 0,.int .u8 0,.int .u8 0,.int .u8 0,.int .u8 0,.int .u8 0,.int .u8 0,.int .i64 2]:Array Value):Array Value).all (·.oneCell')=true by rw[List.all_toArray];rfl)
 clear hRR
 go_enter Tryz.func38,Tryz.ntmps38
 go_upto_region 1 with fail
 generalize hw0:World.alloc _ _=w0
 have hE0:E0 w w0:=by rw[←hw0];exact⟨heap_alloc_new w _,aJ⟩
 clear hw0
 have HEE:=Lib.hid hE0
 clear hE0
 go_wp2_with (refine wpList_store_row rfl 40 _ _ rfl w.heap.size (#[.int .i64 0,.int .i64 0,.string ⟨#[]⟩,.slice none 0 0,.int .u8 0,.int .u8 0,.int .u8 0,.int .u8 0,.int .u8 0,.int .u8 0,.int .u8 0,.int .u8 0,.int .u8 0,.int .u8 0,.int .u8 0,.int .u8 0,.int .u8 0,.int .u8 0,.int .u8 0,.int .u8 0,.int .i64 2]:Array Value) rfl rfl _ (#[.int .i64 0,.int .i64 0,.string ⟨#[]⟩,.slice none 0 0,.int .u8 0,.int .u8 0,.int .u8 0,.int .u8 0,.int .u8 0,.int .u8 0,.int .u8 0,.int .u8 0,.int .u8 0,.int .u8 0,.int .u8 0,.int .u8 0,.int .u8 0,.int .u8 0,.int .u8 0,.int .u8 0,.int .i64 0]:Array Value) HEE.out.e infMade rfl HLO.out ?_)
 rw[HRR.out]
 exact bodyPost_ret (v:=.agg (#[.int .i64 0,.int .i64 0,.string ⟨#[]⟩,.slice none 0 0,.int .u8 0,.int .u8 0,.int .u8 0,.int .u8 0,.int .u8 0,.int .u8 0,.int .u8 0,.int .u8 0,.int .u8 0,.int .u8 0,.int .u8 0,.int .u8 0,.int .u8 0,.int .u8 0,.int .u8 0,.int .u8 0,.int .i64 2]:Array Value)) (results_cell1 rfl _ _ w.heap.size _ rfl (made_load (setRow_heap _ _ _ _ _ _ HEE.out.e) rfl)) rfl ⟨below_setRow HEE.out.b (Nat.le_refl _) _,vZ,rfl,yz _,rfl⟩
theorem pLong25 {w W:World} {tmps:Array Value} (h:PaS w (#[.int .i64 0,.int .i64 0,.string ⟨#[]⟩,.slice none 0 0,.int .u8 0,.int .u8 0,.int .u8 0,.int .u8 0,.int .u8 0,.int .u8 0,.int .u8 0,.int .u8 0,.int .u8 0,.int .u8 0,.int .u8 0,.int .u8 0,.int .u8 0,.int .u8 0,.int .u8 0,.int .u8 0]:Array Value) 2 W) (h2:tmps.getD 2 undef=.pointer (some ⟨w.heap.size,0,none⟩)) (h3:tmps.getD 3 undef=.pointer (some ⟨w.heap.size+1,0,none⟩)) :
  bodyPostD Tryz.prog Tryz.f37 (jQ iK 2 w) .ret { tmps:=tmps,defers:=[] } W:=by
 show Leaves _ _ _ _ _ _ _
 have hr:=OC h rfl h2 h3
 simp[Leaves,settle,hr]
 exact⟨h.b,vZ,rfl,yz _,rfl⟩
theorem parseLong_any (s:aC) (w:World) (hs:131072<s.size):Calls Tryz.prog 37 #[.string s] w (jQ iK 2 w):=by
 have i1:(131072:Int)<(s.size:Int):=by omega
 obtain⟨R,hRR⟩:∃ R,R=jQ iK 2 w:=⟨_,rfl⟩
 rw[←hRR]
 have HRR:=Lib.hid hRR
 clear hRR
 refine calls_of_wp_defers Tryz.func37 rfl ?_;simp only[Tryz.ntmps37,List.size_toArray,List.length_cons,List.length_nil,Nat.reduceAdd,Nat.reduceSub,Array.replicate_succ,Array.replicate_zero,List.push_toArray,List.append_toArray,List.nil_append,List.cons_append]
 go_upto_region 1 with fail
 generalize hw0:World.alloc _ _=w0
 have hP0:PaS w (#[.int .i64 0,.int .i64 0,.string ⟨#[]⟩,.slice none 0 0,.int .u8 0,.int .u8 0,.int .u8 0,.int .u8 0,.int .u8 0,.int .u8 0,.int .u8 0,.int .u8 0,.int .u8 0,.int .u8 0,.int .u8 0,.int .u8 0,.int .u8 0,.int .u8 0,.int .u8 0,.int .u8 0]:Array Value) 0 w0:=by rw[←hw0];exact⟨(gQ w _ _).1,(gQ w _ _).2,aJ⟩
 clear hw0
 have HP:=Lib.hid hP0
 have hP1:PaS w (#[.int .i64 0,.int .i64 0,.string ⟨#[]⟩,.slice none 0 0,.int .u8 0,.int .u8 0,.int .u8 0,.int .u8 0,.int .u8 0,.int .u8 0,.int .u8 0,.int .u8 0,.int .u8 0,.int .u8 0,.int .u8 0,.int .u8 0,.int .u8 0,.int .u8 0,.int .u8 0,.int .u8 0]:Array Value) 0 (w0.setRow w.heap.size (#[.int .i64 0,.int .i64 0,.string ⟨#[]⟩,.slice none 0 0,.int .u8 0,.int .u8 0,.int .u8 0,.int .u8 0,.int .u8 0,.int .u8 0,.int .u8 0,.int .u8 0,.int .u8 0,.int .u8 0,.int .u8 0,.int .u8 0,.int .u8 0,.int .u8 0,.int .u8 0,.int .u8 0]:Array Value)):=⟨setRow_heap _ _ _ _ _ _ hP0.t,(setRow_other _ _ _ _ (by omega)).trans hP0.e,below_setRow hP0.b (Nat.le_refl _) _⟩
 have c8:=hP1.e.cell (k:=0) (v:=.int .i64 0) rfl
 have f8:=frozen_of_row _ _ 0 _ _ hP1.e
 have HP1:=Lib.hid hP1
 clear hP0 hP1
 go_wp2_with (refine wpList_store_row rfl 32 _ _ rfl w.heap.size (#[.int .i64 0,.int .i64 0,.string ⟨#[]⟩,.slice none 0 0,.int .u8 0,.int .u8 0,.int .u8 0,.int .u8 0,.int .u8 0,.int .u8 0,.int .u8 0,.int .u8 0,.int .u8 0,.int .u8 0,.int .u8 0,.int .u8 0,.int .u8 0,.int .u8 0,.int .u8 0,.int .u8 0]:Array Value) rfl rfl _ (#[.int .i64 0,.int .i64 0,.string ⟨#[]⟩,.slice none 0 0,.int .u8 0,.int .u8 0,.int .u8 0,.int .u8 0,.int .u8 0,.int .u8 0,.int .u8 0,.int .u8 0,.int .u8 0,.int .u8 0,.int .u8 0,.int .u8 0,.int .u8 0,.int .u8 0,.int .u8 0,.int .u8 0]:Array Value) HP.out.t lC rfl zt_one ?_)
 rw[HRR.out]
 refine pLong25 ⟨?_,?_,?_⟩ rfl rfl
 ·exact (heap_setCell_other _ _ _ _ (by dsimp only;omega)).trans HP1.out.t
 ·exact heap_setCell_same _ _ _ _ _ _ HP1.out.e
 ·exact HP1.out.b.setCell (p:=⟨w.heap.size+1,0,none⟩) (by dsimp only;omega) _
theorem parse25_both (s:aC) (w:World) (h:s.size≤3000∨131072<s.size) (hE:Env w) (hX:jP w) (hTb:Tab w) (h5:5<w.heap.size) :
  Calls Tryz.prog 37 #[.string s] w (jQ (pz s).1 (pz s).2 w)∧Calls Tryz.prog 38 #[.string s] w (RTokPost (pz s).1 (pz s).2 w):=by
 rcases h with h | h
 ·exact⟨ZZ s w (by omega) (fun x hx=>by have:=oU 59 s x hx;omega) hE hX hTb h5,rParse25_any s w h⟩
 ·have e:pz s=(iK,2):=by unfold pz;rw[if_pos h]
  rw[e]
  exact⟨parseLong_any s w h,rParseLong_any s w h⟩
section
variable {P:Program}
end
structure NrG (n0 n:Nat) (fs:List Value) (a b:World):Prop where
 low:Below n0 a b
 r:∀ v k l,k≤n→a.ownsRow n0 27 7 v k l→b.ownsRow n0 27 7 v k l
 r2:∀ v,a.ownsRow n0 27 7 v (n+1) fs→b.ownsRow n0 27 7 v (n+1) fs
theorem NrG.refl {n0 n:Nat} {fs:List Value} (a:World):NrG n0 n fs a a:=⟨Below.refl _ _,fun _ _ _ _ h=>h,fun _ h=>h⟩
theorem NrG.trans {n0 n:Nat} {fs:List Value} (a b c:World) (h:NrG n0 n fs a b) (k:NrG n0 n fs b c):NrG n0 n fs a c :=
 ⟨h.low.trans k.low,fun v j l hj x=>k.r v j l hj (h.r v j l hj x),fun v x=>k.r2 v (h.r2 v x)⟩
theorem NrG.of {n0 n:Nat} {fs:List Value} {a b:World} (h:Below a.heap.size a b) (h0:n0≤a.heap.size):NrG n0 n fs a b :=
 ⟨h.mono h0,fun _ _ _ _ x=>fZ x h,fun _ x=>fZ x h⟩
structure NrS (w:World) (x:ah) (Y Z:Array Value) (n0:Nat) (W:World):Prop where
 t:fQ W w.heap.size x
 y:aQ W (w.heap.size+1) 27 Y
 z:aQ W (w.heap.size+2) 40 Z
 b:Below w.heap.size w W
 s:n0≤W.heap.size
theorem NrS.low {w W W':World} {x:ah} {Y Z:Array Value} {n0:Nat} (h:NrS w x Y Z n0 W) (hb:Below n0 W W') (h0:w.heap.size+2<n0):NrS w x Y Z n0 W' :=
 ⟨⟨(hb.block _ (by omega)).trans h.t.box⟩,(hb.block _ (by omega)).trans h.y,(hb.block _ h0).trans h.z,h.b.trans (hb.mono (by omega)),Nat.le_trans h.s hb.size⟩
theorem NrS.keep {w W W':World} {x:ah} {Y Z:Array Value} {n0:Nat} (h:NrS w x Y Z n0 W) (hb:Below W.heap.size W W'):NrS w x Y Z n0 W' :=
 ⟨h.t.keep hb,h.y.keep hb,h.z.keep hb,aV h.b hb,Nat.le_trans h.s hb.size⟩
def chainT (k:aj) (id:aC) (l:List aY):bz:=⟨k.party,k.ser,id,l,eU k ⟨k.party,k.ser,id,l,fH⟩⟩
structure NarOk (k:aj) (id:aC) (L:List CoM) (a:dN):Prop where
 k:lQ k=true
 id:id.size≤200
 n:L.length≤16
 co:∀ x∈L,kD x.c
 a:lD a
def csL (L:List CoM) (j:Nat):List aY:=(L.take j).map (·.c)
structure TkAt (k:aj) (id:aC) (L:List CoM) (j:Nat) (W:World) (y:ah):Prop where
 r:bZ W y
 t:y.t=chainT k id (csL L j)
 l:y.L=L.take j
theorem TkAt.keep {k:aj} {id:aC} {L:List CoM} {j:Nat} {W W':World} {y:ah} (h:TkAt k id L j W y) (hb:Below W.heap.size W W'):TkAt k id L j W' y:=⟨h.r.keep hb,h.t,h.l⟩
theorem csL_len {L:List CoM} {j:Nat} (h:j≤L.length):(csL L j).length=j:=by unfold csL;rw[List.length_map,List.length_take];omega
theorem TkAt.co {k:aj} {id:aC} {L:List CoM} {a:dN} {j:Nat} {W:World} {y:ah} (h:TkAt k id L j W y) (ho:NarOk k id L a):∀ x∈y.L,kD x.c:=fun x hx=>ho.co x (by rw[h.l]at hx;exact List.mem_of_mem_take hx)
theorem TkAt.len {k:aj} {id:aC} {L:List CoM} {j:Nat} {W:World} {y:ah} (h:TkAt k id L j W y) (hj:j≤L.length):y.t.conds.length=j:=by rw[h.t];exact csL_len hj
section
variable {k:aj} {id:aC} {L:List CoM} {a:dN} {j:Nat} {W:World} {y:ah}
end
theorem tok_other {W W':World} {y:ah} {g:Nat} (ho:∀ k,k≠g→W'.heap[k]? = W.heap[k]?) (h:bZ W y) (ha:∀ a,y.A=some a→a.block≠g) (hc:∀ x∈y.L,dA W' x.c x.m):bZ W' y :=
 ⟨h.same,⟨h.conds.len,qw ho h.conds.rows (fun _=>ha),hc⟩,h.sl,h.cap⟩
structure NaS2 (w:World) (K X:Array Value) (W:World):Prop where
 k:aQ W w.heap.size 23 K
 a:aQ W (w.heap.size+1) 59 X
 b:Below w.heap.size w W
theorem NaS2.keep {w W W':World} {K X:Array Value} (h:NaS2 w K X W) (hb:Below W.heap.size W W'):NaS2 w K X W':=⟨h.k.keep hb,h.a.keep hb,aV h.b hb⟩
theorem NaS2.low {w W W':World} {K X:Array Value} {g:Nat} (h:NaS2 w K X W) (hb:Below g W W') (hg:w.heap.size+2≤g):NaS2 w K X W' :=
 ⟨(hb.block _ (by omega)).trans h.k,(hb.block _ (by omega)).trans h.a,h.b.trans (hb.mono (by omega))⟩
structure NaL2 (w:World) (K X:Array Value) (gr gl:Nat) (y:ah) (W:World):Prop where
 s:NaS2 w K X W
 r:aQ W gr 23 K
 l:aQ W gl 32 y.cells.toArray
 y:bZ W y
theorem NaL2.keep {w W W':World} {K X:Array Value} {gr gl:Nat} {y:ah} (h:NaL2 w K X gr gl y W) (hb:Below W.heap.size W W'):NaL2 w K X gr gl y W':=⟨h.s.keep hb,h.r.keep hb,h.l.keep hb,h.y.keep hb⟩
theorem NaL2.put {w W:World} {K X:Array Value} {gr gl:Nat} {y z:ah} (h:NaL2 w K X gr gl y W) (h1:w.heap.size+2≤gr) (h2:gr<gl) (hz:bZ W z) (ha:∀ a,z.A=some a→a.block≠gl) (hc:∀ W',Below w.heap.size w W'→∀ x∈z.L,dA W' x.c x.m):NaL2 w K X gr gl z (W.setRow gl z.cells.toArray):=by
 have hb:Below gl W (W.setRow gl z.cells.toArray):=below_setRow (Below.refl _ _) (Nat.le_refl _) _
 have hs:=h.s.low hb (by omega)
 exact⟨hs,(hb.block _ h2).trans h.r,setRow_heap _ _ _ _ _ _ h.l,tok_other (fun k hk=>setRow_other _ _ _ _ hk) hz ha (hc _ hs.b)⟩
structure NaR (k:aj) (id:aC) (L:List CoM) (w:World) (X:Array Value) (gr gl gt j:Nat) (y z:ah) (W:World):Prop where
 s:NaL2 w k.arr X gr gl y W
 t:aQ W gt 32 z.cells.toArray
 z:TkAt k id L (j+1) W z
 y:1≤j→TkAt k id L j W y
theorem NaR.keep {k:aj} {id:aC} {L:List CoM} {w W W':World} {X:Array Value} {gr gl gt j:Nat} {y z:ah} (h:NaR k id L w X gr gl gt j y z W) (hb:Below W.heap.size W W'):NaR k id L w X gr gl gt j y z W':=⟨h.s.keep hb,h.t.keep hb,h.z.keep hb,fun h1=>(h.y h1).keep hb⟩
structure CnS (w:World) (K:Array Value) (W:World):Prop where
 k:aQ W w.heap.size 23 K
 z:aQ W (w.heap.size+1) 40 (#[.int .i64 0,.int .i64 0,.string ⟨#[]⟩,.slice none 0 0,.int .u8 0,.int .u8 0,.int .u8 0,.int .u8 0,.int .u8 0,.int .u8 0,.int .u8 0,.int .u8 0,.int .u8 0,.int .u8 0,.int .u8 0,.int .u8 0,.int .u8 0,.int .u8 0,.int .u8 0,.int .u8 0,.int .i64 0]:Array Value)
 b:Below w.heap.size w W
theorem CnS.keep {w W W':World} {K:Array Value} (h:CnS w K W) (hb:Below W.heap.size W W'):CnS w K W':=⟨h.k.keep hb,h.z.keep hb,aV h.b hb⟩
theorem CnS.low {w W W':World} {K:Array Value} (h:CnS w K W) (hb:Below (w.heap.size+2) W W'):CnS w K W':=⟨(hb.block _ (by omega)).trans h.k,(hb.block _ (by omega)).trans h.z,h.b.trans (hb.mono (by omega))⟩
structure CnL (w:World) (K:Array Value) (gx:Nat) (y:ah) (er:Int) (W:World):Prop where
 s:CnS w K W
 x:aQ W gx 40 (y.cells++[Value.int .i64 er]).toArray
 y:bZ W y
theorem CnL.keep {w W W':World} {K:Array Value} {gx:Nat} {y:ah} {er:Int} (h:CnL w K gx y er W) (hb:Below W.heap.size W W'):CnL w K gx y er W':=⟨h.s.keep hb,h.x.keep hb,h.y.keep hb⟩
theorem made_tok {W:World} {g:Nat} {y:ah} {er:Int} (hy:bZ W y) (h:aQ W g 40 (y.cells++[Value.int .i64 er]).toArray):(loadVar 32 ⟨g,0,none⟩).run Tryz.prog W=.ok (.agg y.cells.toArray) W :=
 yI (P:=Tryz.prog) W g 0 40 32 (y.cells++[Value.int .i64 er]) y.cells (0,0) _ h (fun j v hv=>by
  rw[Nat.zero_add,List.getElem?_append_left (List.getElem?_eq_some_iff.1 hv).1];exact hv) Tryz.underlying32 rfl (by rw[show y.cells.length=20 from hy.size];exact lC)
theorem made_err {W:World} {g:Nat} {y:ah} {er:Int} (hy:bZ W y) (h:aQ W g 40 (y.cells++[Value.int .i64 er]).toArray):W.cell? ⟨g,20,none⟩=some (.int .i64 er) :=
 h.cell (k:=20) (by
  have h20:y.cells.length=20:=hy.size
  rw[List.getElem?_toArray,List.getElem?_append_right (by omega),h20];rfl)
theorem wrOne (a:aC) (e:Int):(#[Value.string a,Value.int .i64 e]:Array Value).all (·.oneCell')=true:=by rw[List.all_toArray];rfl
theorem infWr:(Tryz.prog.info? 73).map (·.size)=some 2:=by kernel_rfl
structure RsE (w:World) (gA gB gC:Nat) (TS:aC) (TE PE:Int) (y1 y2:ah) (W:World):Prop where
 bl:Below w.heap.size w W
 a:aQ W gA 73 #[.string TS,.int .i64 TE]
 b:aQ W gB 32 y1.cells.toArray
 c:aQ W gC 40 (y2.cells++[Value.int .i64 PE]).toArray
 y1:bZ W y1
 y2:bZ W y2
theorem RsE.keep {w W W':World} {gA gB gC:Nat} {TS:aC} {TE PE:Int} {y1 y2:ah} (h:RsE w gA gB gC TS TE PE y1 y2 W) (hb:Below W.heap.size W W'):RsE w gA gB gC TS TE PE y1 y2 W':=⟨aV h.bl hb,h.a.keep hb,h.b.keep hb,h.c.keep hb,h.y1.keep hb,h.y2.keep hb⟩
theorem parseV_small {s:aC} (hs:s.size≤3000∨131072<s.size):(∀ c∈(pz s).1.conds,dE c)∧(pz s).1.conds.length≤1000:=by
 have hz:(∀ c∈iK.conds,dE c)∧iK.conds.length≤1000:=⟨fun c hc=>absurd hc List.not_mem_nil,Nat.zero_le _⟩
 unfold pz
 split
 ·exact hz
 ·split
  ·rename_i t h
   exact⟨fun c hc=>(readT_conds h (by omega) c hc).1,by have:=((vH _).1 (readT_some h).1).n1;show t.conds.length≤_;omega⟩
  ·exact hz
theorem lawReads25 (x:ah) (s:aC) (w:World) (hR:bZ w x) (hn63:x.t.conds.length≤9223372036854775807) (hsz:s.size≤9223372036854775807) (hL:gz w) :
  Calls Tryz.prog 6 #[x.val,.string s] w (Ret w (.bool true)):=by
 have hf:=fun (W:World) (hb:Below w.heap.size w W)=>rTFew_all x W (hR.keep hb) hn63
 have hsa:=fun (W:World) (hb:Below w.heap.size w W)=>aBe W (hL.keep hb)
 have hXS:x.cells.toArray.size=20:=by rw[List.size_toArray];exact hR.size
 have HXS:=Lib.hid hXS;have HSA:=Lib.hid hsa
 clear hXS hsa
 cases hfe:fewTk x.t
 ·rw[hfe]at hf
  have HF:=Lib.hid hf
  clear hf hR hL hfe
  unfold ah.val at *
  go_enter Tryz.func6,Tryz.ntmps6
  go_upto_region 1 with fail
  generalize hw0:World.alloc _ _=w0
  have hS:RbS w x w0:=by rw[←hw0];exact⟨⟨World.alloc_heap_new w _⟩,aJ⟩
  clear hw0
  go_wp2_with (first | (refine bD rfl 32 _ rfl ⟨w.heap.size,0,none⟩ (.agg x.cells.toArray) rfl (dY hS.t.box HXS.out) ?_) | (go_at_call 10;refine (HF.out _ hS.b).mono ?_;clear HF;rintro e w' ⟨rfl,hb'⟩;replace hS:=hS.keep hb';clear hb') | (go_at_call 11;refine (HSA.out _ hS.b).mono ?_;rintro e ws ⟨rfl,hbs⟩;replace hS:=hS.keep hbs))
  go_ret
  exact⟨rfl,hS.b⟩
 rw[hfe]at hf
 have HF:=Lib.hid hf
 clear hf
 by_cases hmid:3000<s.size∧s.size≤131072
 ·have i3:(3000:Int)<(s.size:Int):=by omega
  have i4:(s.size:Int)≤131072:=by omega
  clear hR hL hfe
  unfold ah.val at *
  go_enter Tryz.func6,Tryz.ntmps6
  go_upto_region 1 with fail
  generalize hw0:World.alloc _ _=w0
  have hS:RbS w x w0:=by rw[←hw0];exact⟨⟨World.alloc_heap_new w _⟩,aJ⟩
  clear hw0
  go_wp2_with (first | (refine bD rfl 32 _ rfl ⟨w.heap.size,0,none⟩ (.agg x.cells.toArray) rfl (dY hS.t.box HXS.out) ?_) | (go_at_call 10;refine (HF.out _ hS.b).mono ?_;clear HF;rintro e w' ⟨rfl,hb'⟩;replace hS:=hS.keep hb';clear hb') | (go_at_call 11;refine (HSA.out _ hS.b).mono ?_;rintro e ws ⟨rfl,hbs⟩;replace hS:=hS.keep hbs))
  go_ret
  exact⟨rfl,hS.b⟩
 by_cases hbig:262144<s.size
 ·have i3:(3000:Int)<(s.size:Int):=by omega
  have i4:¬ (s.size:Int)≤131072:=by omega
  have i5:(262144:Int)<(s.size:Int):=by omega
  clear hR hL hfe
  unfold ah.val at *
  go_enter Tryz.func6,Tryz.ntmps6
  go_upto_region 1 with fail
  generalize hw0:World.alloc _ _=w0
  have hS:RbS w x w0:=by rw[←hw0];exact⟨⟨World.alloc_heap_new w _⟩,aJ⟩
  clear hw0
  go_wp2_with (first | (refine bD rfl 32 _ rfl ⟨w.heap.size,0,none⟩ (.agg x.cells.toArray) rfl (dY hS.t.box HXS.out) ?_) | (go_at_call 10;refine (HF.out _ hS.b).mono ?_;clear HF;rintro e w' ⟨rfl,hb'⟩;replace hS:=hS.keep hb';clear hb') | (go_at_call 11;refine (HSA.out _ hS.b).mono ?_;rintro e ws ⟨rfl,hbs⟩;replace hS:=hS.keep hbs))
  go_ret
  exact⟨rfl,hS.b⟩
 have hs:s.size≤3000∨131072<s.size:=by omega
 have i5:¬ (262144:Int)<(s.size:Int):=by omega
 have fk:=few_tok hfe
 have fin:=few_in hR hfe
 have hfit:∀ y∈x.L,dE y.c:=fun y hy=>few_fits (fin y hy)
 have hco:gX x.t=true→∀ y∈x.L,kD y.c:=fun hvt y hy=>⟨hfit y hy,valid_in hR hvt y hy,by have:=textC_size7 (valid_in hR hvt y hy) (fin y hy);omega⟩
 have htx:=fun (W:World) (hb:Below w.heap.size w W)=>Y6 x W (hR.keep hb) hfit hco (by omega) (by omega) (fun hvt=>by have:=textT_size hvt hfe hR.sl;omega) (hL.e.keep hb) (hL.t.keep hb)
 have hrt:=fun (W:World) (hb:Below w.heap.size w W)=>rText25_any x W (hR.keep hb) hfit hco (by omega) (by omega) (fun hvt=>by have:=textT_size hvt hfe hR.sl;omega)
 have hpa:=fun (W:World) (hb:Below w.heap.size w W)=>parse25_both s W hs (hL.e.keep hb) (hL.x.keep hb) (hL.t.keep hb) (Nat.lt_of_lt_of_le hL.h hb.size)
 have hsml:=parseV_small hs
 generalize pz s=PV at *
 obtain⟨PT,PE⟩:=PV
 dsimp only at hpa hsml
 have hsm:=fun (y1 y2:ah) (W:World) (h1:bZ W y1) (h2:bZ W y2) (e1:y1.t=PT) (e2:y2.t=PT)=>Yx y1 y2 W h1 h2 (by rw[e1,e2]) (fun z hz=>hsml.1 z.c (by rw[←e1,←h1.same];exact List.mem_map_of_mem hz)) (by rw[e1];exact hsml.2)
 obtain⟨TS,hTS⟩:∃ TS,TS=(if gX x.t then jF x.t else ⟨#[]⟩):=⟨_,rfl⟩
 obtain⟨TE,hTE⟩:∃ TE:Int,TE=(if gX x.t then 0 else 3):=⟨_,rfl⟩
 rw[←hTS,←hTE]at htx hrt
 have HT:=Lib.hid htx;have HRT:=Lib.hid hrt;have HPA:=Lib.hid hpa;have HSM:=Lib.hid hsm
 have hss:(TS.toList==TS.toList)=true:=by simp
 have he1:(TE==TE)=true:=by simp
 have he2:(PE==PE)=true:=by simp
 clear htx hrt hpa hsm hsml hTS hTE hR hL hfe fk fin hfit hco
 have i34:(3000:Int)<(s.size:Int)∧¬ (s.size:Int)≤131072∨¬ (3000:Int)<(s.size:Int):=by omega
 unfold ah.val at *
 rcases i34 with ⟨i3,i4⟩ | i3
 all_goals
  go_enter Tryz.func6,Tryz.ntmps6
  go_upto_region 1 with fail
  generalize hw0:World.alloc _ _=w0
  have hS:RbS w x w0:=by rw[←hw0];exact⟨⟨World.alloc_heap_new w _⟩,aJ⟩
  clear hw0
  go_upto_region 4 with (first | (refine bD rfl 32 _ rfl ⟨w.heap.size,0,none⟩ (.agg x.cells.toArray) rfl (dY hS.t.box HXS.out) ?_) | (go_at_call 10;refine (HF.out _ hS.b).mono ?_;clear HF;rintro e w' ⟨rfl,hb'⟩;replace hS:=hS.keep hb';clear hb') | (go_at_call 35;refine (HT.out _ hS.b).mono ?_;rintro e w' ⟨rfl,hb'⟩;replace hS:=hS.keep hb';clear hb'))
  go_upto_region 5 with (first | (refine bD rfl 32 _ rfl ⟨w.heap.size,0,none⟩ (.agg x.cells.toArray) rfl (dY hS.t.box HXS.out) ?_) | (go_at_call 36;refine (HRT.out _ hS.b).mono ?_;rintro e w2 ⟨rfl,hb2⟩;replace hS:=hS.keep hb2) | (refine wpList_store_row rfl 73 _ _ rfl w2.heap.size #[.string TS,.int .i64 TE] rfl rfl _ #[.string ⟨#[]⟩,.int .i64 0] (heap_alloc_new w2 _) infWr rfl (wrOne _ _) ?_))
  (try dsimp only[Act.put])
  generalize hwA:World.setRow _ _ _=wA
  have hbA:Below w2.heap.size w2 wA:=by rw[←hwA];exact below_setRow (fJ _ _) (Nat.le_refl _) _
  have hA:aQ wA w2.heap.size 73 #[.string TS,.int .i64 TE]:=by rw[←hwA];exact setRow_heap _ _ _ _ _ _ (heap_alloc_new w2 _)
  replace hS:=hS.keep hbA
  clear hwA hbA hb2
  generalize w2.heap.size=gA at *
  go_upto_region 6 with (first | (go_at_call 37;refine (HPA.out _ hS.b).1.mono ?_;rintro e w3 ⟨hb3,y1,rfl,hr1,ht1⟩;simp only[zQ];replace hS:=hS.keep hb3) | (refine wpList_store_row rfl 32 _ _ rfl w3.heap.size y1.cells.toArray rfl rfl _ (#[.int .i64 0,.int .i64 0,.string ⟨#[]⟩,.slice none 0 0,.int .u8 0,.int .u8 0,.int .u8 0,.int .u8 0,.int .u8 0,.int .u8 0,.int .u8 0,.int .u8 0,.int .u8 0,.int .u8 0,.int .u8 0,.int .u8 0,.int .u8 0,.int .u8 0,.int .u8 0,.int .u8 0]:Array Value) (heap_alloc_new w3 _) (kH hr1).1 (kH hr1).2.1 (kH hr1).2.2 ?_))
  (try dsimp only[Act.put])
  generalize hwB:World.setRow _ _ _=wB
  have hbB:Below w3.heap.size w3 wB:=by rw[←hwB];exact below_setRow (fJ _ _) (Nat.le_refl _) _
  have hB:aQ wB w3.heap.size 32 y1.cells.toArray:=by rw[←hwB];exact setRow_heap _ _ _ _ _ _ (heap_alloc_new w3 _)
  replace hS:=hS.keep hbB
  replace hA:=(hA.keep hb3).keep hbB
  replace hr1:=hr1.keep hbB
  clear hwB hbB hb3
  generalize w3.heap.size=gB at *
  go_upto_region 7 with (first | (go_at_call 38;refine (HPA.out _ hS.b).2.mono ?_;rintro e w4 ⟨hb4,y2,rfl,hr2,ht2⟩;replace hS:=hS.keep hb4;obtain⟨X2,hX2⟩:∃ X2,X2=(y2.cells++[Value.int .i64 PE]).toArray:=⟨_,rfl⟩;rw[←hX2];have HX2S:=Lib.hid (show X2.size=21 by rw[hX2];exact made_size hr2 PE);have HX2O:=Lib.hid (show X2.all (·.oneCell')=true by rw[hX2];exact made_one y2 PE);have HX2:=Lib.hid hX2.symm;clear hX2) | (refine wpList_store_row rfl 40 _ _ rfl w4.heap.size X2 rfl rfl _ (#[.int .i64 0,.int .i64 0,.string ⟨#[]⟩,.slice none 0 0,.int .u8 0,.int .u8 0,.int .u8 0,.int .u8 0,.int .u8 0,.int .u8 0,.int .u8 0,.int .u8 0,.int .u8 0,.int .u8 0,.int .u8 0,.int .u8 0,.int .u8 0,.int .u8 0,.int .u8 0,.int .u8 0,.int .i64 0]:Array Value) (heap_alloc_new w4 _) (by rw[HX2S.out];exact infMade) (by rw[HX2S.out];rfl) HX2O.out ?_))
  (try dsimp only[Act.put])
  generalize hwC:World.setRow _ _ _=wC
  have hbC:Below w4.heap.size w4 wC:=by rw[←hwC];exact below_setRow (fJ _ _) (Nat.le_refl _) _
  have hC:aQ wC w4.heap.size 40 X2:=by rw[←hwC];exact setRow_heap _ _ _ _ _ _ (heap_alloc_new w4 _)
  replace hS:=hS.keep hbC
  have hE:RsE w gA gB w4.heap.size TS TE PE y1 y2 wC:=⟨hS.b,(hA.keep hb4).keep hbC,(hB.keep hb4).keep hbC,by rw[HX2.out];exact hC,(hr1.keep hb4).keep hbC,hr2.keep hbC⟩
  have HE:=Lib.hid hE;have HT1:=Lib.hid ht1;have HT2:=Lib.hid ht2
  clear hwC hbC hb4 hA hB hC hr1 hr2 hE hS ht1 ht2
  generalize w4.heap.size=gC at *
  go_wp2_with (first | (go_at_call 11;refine (HSA.out _ HE.out.bl).mono ?_;rintro e ws ⟨rfl,hbs⟩;have HE7:=Lib.hid (HE.out.keep hbs);have c0:=HE7.out.a.cell (k:=0) (v:=.string TS) rfl;have c1:=HE7.out.a.cell (k:=1) (v:=.int .i64 TE) rfl;have l1:=dY HE7.out.b (by rw[List.size_toArray];exact HE7.out.y1.size);have l2:=made_tok HE7.out.y2 HE7.out.c;have c20:=made_err HE7.out.y2 HE7.out.c;have hsmw:=HSM.out y1 y2 ws HE7.out.y1 HE7.out.y2 HT1.out HT2.out;unfold ah.val at hsmw) | (first | (refine bD rfl 32 _ rfl ⟨gB,0,none⟩ (.agg y1.cells.toArray) rfl l1 ?_) | (go_big_want;refine jE 32 _ rfl ⟨gB,0,none⟩ (.agg y1.cells.toArray) rfl l1 ?_;simp only[Act.put,List.setIfInBounds_toArray,List.set_cons_succ,List.set_cons_zero])) | (first | (refine bD rfl 32 _ rfl ⟨gC,0,none⟩ (.agg y2.cells.toArray) rfl l2 ?_) | (go_big_want;refine jE 32 _ rfl ⟨gC,0,none⟩ (.agg y2.cells.toArray) rfl l2 ?_;simp only[Act.put,List.setIfInBounds_toArray,List.set_cons_succ,List.set_cons_zero])) | (go_at_call 16;refine hsmw.mono ?_;rintro e w8 ⟨rfl,hb8⟩;have c20:=aW hb8 c20;have hbl8:=aV HE7.out.bl hb8))
  go_ret
  exact⟨rfl,hbl8⟩
end Go.Proofs.YtlkbkclnbppigaaGreatDoor
namespace Go.Proofs.YtlkbkclnbppigaaGreatDoor
open Go.RowKit Go.ChangeShapes Go.WideShapes
section
variable {H:Type} {enc:TypeId × Value→H} {P:Program}
def rowed (P:Program) (ts:List TypeId):Bool:=ts.all fun t=>P.readableRec t&&decide (t<P.types.size)
theorem args_stay (hl:laidOutB P=true) {W W':World} (hb:Below W.heap.size W W') (sp:Nat→Bool) :
  ∀ {ts:List TypeId} {vs:List Value} {ds:List (DataW H)} {ps:List MemPlace},rowed P ts=true→DataW.TrodAll enc P W 0 (fun _=>true) true ts vs ds ps→(∀ x∈ps,x.block<W.heap.size)→(∀ x∈ps,sp x.block=true)→DataW.TrodAll enc P W' 0 sp true ts vs ds ps
 | [],vs,ds,ps,_,h,_,_=>by
  obtain⟨rfl,rfl,rfl⟩:=trodAll_nil h
  exact trodAll_mk0
 | t :: ts,vs,ds,ps,hr,h,h1,h2=>by
  obtain⟨v,vs',d,ds',p,q,rfl,rfl,rfl,hv,hs⟩:=trodAll_cons h
  simp only[rowed,List.all_cons,Bool.and_eq_true,decide_eq_true_eq]at hr
  exact trodAll_cons_mk (WideElems.Trod_stays hl hr.1.1 hr.1.2 hv (fun x hx=>hb.same (h1 x (by simp[hx]))) (fun x hx=>h2 x (by simp[hx])))
   (args_stay hl hb sp (by simpa[rowed] using hr.2) hs (fun x hx=>h1 x (by simp[hx])) (fun x hx=>h2 x (by simp[hx])))
theorem bool_reads {t:TypeId} {W:World} {b:Nat} {sp:Nat→Bool} {hd:Bool} (ht:P.underlying t=some .bool) (x:Bool):DataW.TrodAll enc P W b sp hd [t] [.bool x] [.lit (.bool x)] []:=trodAll_mk1 (shut_bool ht x)
theorem law_post {f:Func} {s:ChangeSpec} {apart fresh handsOn again:Bool} {W W':World} {args:Array Value} {ds gs:List (DataW H)} {before:List MemPlace} {t:TypeId}
  (hW:DataW.Whole enc P f.params.toList s.vars apart W args.toList ds gs before) (hvars:s.vars=[]) (hl:laidOutB P=true) (hrow:rowed P f.params.toList=true) (hres:f.resultTypes=#[t]) (ht:P.underlying t=some .bool)
  (hfn:s.fn H (ds++gs)={ results:=[.lit (.bool true)],args:=ds }) (hb:Below W.heap.size W W'):s.post enc P f apart fresh handsOn again W args (.bool true) W':=by
 have hlt:∀ x∈before,x.block<W.heap.size:=fun x hx=>hW.lt x hx
 have hW0:=hW
 obtain⟨p,q,hA,hV,hp,hfz,hnd⟩:=hW
 rw[hvars]at hV
 obtain⟨rfl,rfl⟩:=trodVars_none hV
 rw[List.append_nil]at hp
 subst hp
 have hr1:(Value.bool true).resultList f.resultTypes.size=[.bool true]:=by rw[hres];rfl
 have hr2:f.resultTypes.toList=[t]:=by rw[hres]
 have hvs:∀ sp,DataW.TrodVars enc P W' sp s.vars [] []:=fun sp=>by rw[hvars];rfl
 refine⟨ds,[],before,[],before,[],hW0,?_,?_,?_,?_,fun _=>⟨?_,.lit (.bool true) :: ds,[],before,?_,fun x hx _=>hx⟩⟩
 ·rw[hfn,hr1,hr2];exact bool_reads ht true
 ·rw[hfn];exact args_stay hl hb _ hrow hA hlt (fun x hx=>by simpa using hlt x hx)
 ·rw[hfn];exact hvs _
 ·exact World.keptBut_mono (fun x hx=>⟨hx,.inr (.inl hx)⟩) (hb.frame (·∈before))
 ·exact ok_one hres rfl (okWide_bool_mk ht true)
 ·refine⟨before,[],?_,hvs _,by simp,?_,hnd⟩
  ·rw[hr1,hr2]
   have:=trodAll_append (args_stay hl hb (fun _=>true) hrow hA hlt (fun _ _=>rfl)) (bool_reads (enc:=enc) (P:=P) (W:=W') (b:=0) (sp:=fun _=>true) (hd:=true) ht true)
   simpa using this
  ·intro b off hx
   rw[hb.frozen (hlt _ hx)]
   exact hfz b off hx
end
end Go.Proofs.YtlkbkclnbppigaaGreatDoor
namespace Go.Proofs.YtlkbkclnbppigaaGreatDoor
open Go.ChangeShapes Go.WideShapes Go.ChangeAt Go.RowKit Go.ChangeMaps
theorem own:ownKnob Tryz.prog.godebug=none:=by kernel_rfl
theorem laidOut:laidOutB Tryz.prog=true:=by kernel_rfl
theorem env_of {W:World} (h:W.ShapedOpen Tryz.prog):Env W :=
 Go.Proofs.cell_of_shapedOpen_int (zero:=#[.int .i64 0]) (t:=3) h (of_decide_eq_true (by kernel_rfl)) (by kernel_rfl) rfl (by kernel_rfl) (by kernel_rfl) Tryz.underlying3
def laidCells (k:IntKind) (l:List Nat):Obj→Obj
 | .cells _ t frozen=>.cells (l.map fun (n:Nat)=>Value.int k (n:Int)).toArray t frozen
 | o=>o
def tabA:List Nat:=[0,1,28,2,29,14,24,3,30,22,20,15,25,17,4,8,31,27,13,23,21,19,16,7,26,12,18,6,11,5,10,9]
def tabB:List Nat:=[0,1,56,2,57,49,28,3,61,58,42,50,38,29,17,4,62,47,59,36,45,43,51,22,53,39,33,30,24,18,12,5,63,55,48,27,60,41,37,16,46,35,44,21,52,32,23,11,54,26,40,15,34,20,31,10,25,14,19,9,13,8,7,6]
def tabC:List Nat:=[1,10,100,1000,10000,100000,1000000,10000000,100000000,1000000000,10000000000,100000000000,1000000000000,10000000000000,100000000000000,1000000000000000,10000000000000000,100000000000000000,1000000000000000000,10000000000000000000]
noncomputable def laidWorld (os:Os):World :=
 { World.holding Tryz.prog os ⟨#[],#[],[]⟩ with heap:=(((((World.holding Tryz.prog os ⟨#[],#[],[]⟩).heap.modify 8 (laidCells .u8 tabA)).modify 9 (laidCells .u8 tabB)).modify 3 (laidCells .u64 tabC)).modify 7 (laidCells .u8 ([128,191,160,191,128,159,144,191,128,143]++List.replicate 22 0))).modify 6 (laidCells .u8 Go.Pinned.utf8FirstZ) }
theorem tab_same:(Rows.laid_internal_strconv_uint64pow10:DataW Unit)=Lib.tabData .u64 Lib.pow10Tab:=by kernel_rfl
theorem tab_of {W:World} {d1 d2:DataW Unit} {n1 n2:String} {rest:List (String × DataW Unit)} (h:laidMet Tryz.prog ((n1,d1) :: (n2,d2) :: ("internal/strconv.uint64pow10", Rows.laid_internal_strconv_uint64pow10) :: rest) W):Tab W:=by
 have h2:=laidMet.tail (laidMet.tail h)
 rw[tab_same]at h2
 exact Lib.tabIs_of_head (g:=3) (by kernel_rfl) (by kernel_rfl) Tryz.underlying314 Tryz.underlying150 (by kernel_rfl) (by kernel_rfl) h2
theorem errStar : "*" ++ "errors.errorString" = "*errors.errorString" := by decide
theorem errRow (u:TypeId) (h:Tryz.prog.typeName? 3 u=some "*errors.errorString"):u=339 :=
 typeName_ptr_named (nm := "errors.errorString") (by rw[errStar];kernel_rfl) (by kernel_rfl) (by decide) u (by rw[errStar];exact h)
def errCell (n:Nat):Obj→Obj
 | .cells _ t frozen=>.cells #[.iface 339 (.pointer (some ⟨n,0,none⟩))] t frozen
 | o=>o
noncomputable def laidWorldR (os:Os):World :=
 { laidWorld os with heap:=((((((laidWorld os).heap.modify 0 (laidCells .u32 Sha.ks)).modify 1 (laidCells .u32 Sha.ks)).modify 5 (errCell (laidWorld os).heap.size)).modify 4 (errCell ((laidWorld os).heap.size+1))).push (.cells #[.string (⟨#[118,97,108,117,101,32,111,117,116,32,111,102,32,114,97,110,103,101]⟩:aC)] 341)).push (.cells #[.string (⟨#[105,110,118,97,108,105,100,32,115,121,110,116,97,120]⟩:aC)] 341) }
def ksI:List Int:=Sha.ks.map fun n:Nat=>(n:Int)
theorem ks_same:(Rows.laid_weirgate_hash_constants:DataW Unit)=Lib.tabData .u32 ksI:=by kernel_rfl
theorem ks_of_tab {W:World} (h:Lib.TabIs Tryz.prog W "weirgate/hash.constants" .u32 ksI):Ks W:=by
 unfold Lib.TabIs World.var? at h
 rw[show Tryz.prog.globalNamed "weirgate/hash.constants" = some 0 by kernel_rfl]at h
 rw[Option.bind_some]at h
 split at h
 ·rename_i cs t fr hc
  injection h with h
  refine⟨t,fr,hc.trans ?_⟩
  rw[h]
  unfold ksI w32
  rw[List.map_map]
  rfl
 ·cases h
theorem rest_of {W:World} {rest:List (String × DataW Unit)} (h5:laidMet Tryz.prog (("strconv.ErrRange", Rows.laid_strconv_ErrRange) :: ("strconv.ErrSyntax", Rows.laid_strconv_ErrSyntax) :: ("weirgate/hash.constants", Rows.laid_weirgate_hash_constants) :: rest) W):jP W∧5<W.heap.size∧Ks W:=by
 have h6:=laidMet.tail h5
 have h7:=laidMet.tail h6
 obtain⟨a1,s1,v1,_,_,_⟩:=laid_sentinel (g:=5) (ti:=177) (tp:=339) (te:=341) (ts:=9) h5 (by kernel_rfl) (by kernel_rfl) Tryz.underlying177 errRow Tryz.underlying339 Tryz.underlying341 rfl rfl Tryz.underlying9 (by kernel_rfl) (by kernel_rfl)
 obtain⟨a2,s2,v2,_,_,_⟩:=laid_sentinel (g:=4) (ti:=177) (tp:=339) (te:=341) (ts:=9) h6 (by kernel_rfl) (by kernel_rfl) Tryz.underlying177 errRow Tryz.underlying339 Tryz.underlying341 rfl rfl Tryz.underlying9 (by kernel_rfl) (by kernel_rfl)
 have c1:=World.var?_cell (g:=5) (by kernel_rfl) v1 0
 have c2:=World.var?_cell (g:=4) (by kernel_rfl) v2 0
 rw[ks_same]at h7
 have hk:=ks_of_tab (Lib.tabIs_of_head (g:=0) (by kernel_rfl) (by kernel_rfl) Tryz.underlying265 Tryz.underlying147 (by kernel_rfl) (by kernel_rfl) h7)
 refine⟨⟨⟨_,c2,.inr ⟨_,_,rfl⟩⟩,_,c1,.inr ⟨_,_,rfl⟩⟩,?_,hk⟩
 have:=bu c1
 have:=bu c2
 omega
theorem lawe_of {W:World} {d1 d2 d4:DataW Unit} {n1 n2 n4:String} {rest:List (String × DataW Unit)} (hS:W.ShapedOpen Tryz.prog) (h:laidMet Tryz.prog ((n1,d1) :: (n2,d2) :: ("internal/strconv.uint64pow10", Rows.laid_internal_strconv_uint64pow10) :: (n4,d4) :: ("strconv.ErrRange", Rows.laid_strconv_ErrRange) :: ("strconv.ErrSyntax", Rows.laid_strconv_ErrSyntax) :: ("weirgate/hash.constants", Rows.laid_weirgate_hash_constants) :: rest) W):gz W:=by
 have h5:=rest_of (laidMet.tail (laidMet.tail (laidMet.tail (laidMet.tail h))))
 exact⟨env_of hS,tab_of h,h5.2.2,h5.1,h5.2.1⟩
end Go.Proofs.YtlkbkclnbppigaaGreatDoor
