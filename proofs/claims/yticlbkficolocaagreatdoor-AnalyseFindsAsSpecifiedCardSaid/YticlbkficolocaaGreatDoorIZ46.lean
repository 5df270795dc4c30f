/- The reference of analyse: Dead. -/
import Derived.Test.YticlbkficolocaaGreatDoorIZ44
set_option maxHeartbeats 8000000
namespace Go.Proofs.YticlbkficolocaaGreatDoor
open Go.RowKit Go.Sort
set_option linter.unusedVariables false
set_option linter.unusedSimpArgs false
set_option maxRecDepth 100000
theorem infJn24:(Tryz.prog.info? 89).map (·.size)=some 3:=by kernel_rfl
theorem bothR_meet {p q:ByteArray} (hp:(Qx p).isSome=true) (hq:(Qx q).isSome=true):bothR (Js p q)=match X3 p q with
  | some m=>(m,true,0)
  | none=>(⟨#[]⟩,false,0):=by
 obtain⟨x,hx⟩:=Option.isSome_iff_exists.1 hp
 obtain⟨y,hy⟩:=Option.isSome_iff_exists.1 hq
 unfold Js X3
 rw[if_neg (YX hp),if_neg (YX hq),hx,hy]
 dsimp only
 cases QK x y <;> rfl
def deAt (x:Qh) (bs:List ByteArray):Bool × Int :=
 if (Ze x.r.tags).2=0 then (if x.r.allow.till≤x.r.allow.fr then (true,0) else match X3 x.r.pat x.r.allow.pat with
  | none=>(true,0)
  | some m=>(!(Jq m bs).1,0)) else (true,0)
def deRef (L:List Qh) (i:Int):Bool × Int :=
 if Uo L i=true then (match L[i.toNat]? with
  | none=>(false,1)
  | some x=>deAt x (Z5 L x.r.tags i.toNat)) else (false,1)
theorem rDead24_bad (A:Option Addr) (n c:Nat) (i:Int) (L:List Qh) (w:World) (hL:Qs w A n L) (hf:∀ x∈L,Zw x.r) (hn:n≤1000) (hbad:Uo L i=false) :
  Calls Tryz.prog 15 #[.slice A n c,.int .i64 i] w (Zx w (.agg #[.bool false,.int .i64 1])):=by
 have hlen:=hL.len
 have cV:=fun W (hb:Below w.heap.size w W)=>Vt A n c L W (hL.keep hb) hf (by omega)
 unfold Uo at hbad
 cases hv:Xp L
 ·rw[hv]at cV
  have HV:=Lib.hid cV
  clear cV hv hbad hL hf hlen
  go_enter Tryz.func15,Tryz.ntmps15
  go_upto_region 1 with fail
  generalize hw0:World.alloc _ _=w0
  have hk:Qv w0 w.heap.size 45 #[.bool false,.int .i64 0] (0,0):=by rw[←hw0];exact World.alloc_heap_new w _
  have hb0:Below w.heap.size w w0:=by rw[←hw0];exact Qk (Below.refl _ _) _
  clear hw0
  go_wp2_with (go_at_call 36;refine (HV.out _ hb0).mono ?_;rintro e w2 ⟨rfl,hb2⟩;have hk2:=Qv.keep hk hb2;have k0:=Qv.cell hk2 0;have k1:=Qv.cell hk2 1;have g0:=Qd hk2 0;have g1:=Qd hk2 1;have hz:=Qv.lt hk2)
  exact bodyPost_ret (v:=.agg #[.bool false,.int .i64 1]) (by simp[results,Tryz.results15,go_sem,hz,k0,k1,g0,g1]) rfl ⟨rfl,Qz⟩
 rw[hv]at cV hbad
 rw[Bool.true_and]at hbad
 have HV:=Lib.hid cV
 by_cases hi0:i<0
 ·have d0:decide (i<0)=true:=decide_eq_true hi0
  clear cV hv hbad hL hf hlen
  go_enter Tryz.func15,Tryz.ntmps15
  go_upto_region 1 with fail
  generalize hw0:World.alloc _ _=w0
  have hk:Qv w0 w.heap.size 45 #[.bool false,.int .i64 0] (0,0):=by rw[←hw0];exact World.alloc_heap_new w _
  have hb0:Below w.heap.size w w0:=by rw[←hw0];exact Qk (Below.refl _ _) _
  clear hw0
  go_wp2_with (go_at_call 36;refine (HV.out _ hb0).mono ?_;rintro e w2 ⟨rfl,hb2⟩;have hk2:=Qv.keep hk hb2;have k0:=Qv.cell hk2 0;have k1:=Qv.cell hk2 1;have g0:=Qd hk2 0;have g1:=Qd hk2 1;have hz:=Qv.lt hk2)
  exact bodyPost_ret (v:=.agg #[.bool false,.int .i64 1]) (by simp[results,Tryz.results15,go_sem,hz,k0,k1,g0,g1]) rfl ⟨rfl,Qz⟩
 have d0:decide (i<0)=false:=decide_eq_false hi0
 obtain⟨k,rfl⟩:∃ k:Nat,i=(k:Int):=⟨i.toNat,by omega⟩
 have hkn:n≤k:=by
  rw[decide_eq_true (by omega),Bool.true_and]at hbad
  have:=of_decide_eq_false hbad
  omega
 have d1:decide ((n:Int)≤(k:Int))=true:=decide_eq_true (by omega)
 clear cV hv hbad hL hf hlen
 go_enter Tryz.func15,Tryz.ntmps15
 go_upto_region 1 with fail
 generalize hw0:World.alloc _ _=w0
 have hk:Qv w0 w.heap.size 45 #[.bool false,.int .i64 0] (0,0):=by rw[←hw0];exact World.alloc_heap_new w _
 have hb0:Below w.heap.size w w0:=by rw[←hw0];exact Qk (Below.refl _ _) _
 clear hw0
 go_wp2_with (go_at_call 36;refine (HV.out _ hb0).mono ?_;rintro e w2 ⟨rfl,hb2⟩;have hk2:=Qv.keep hk hb2;have k0:=Qv.cell hk2 0;have k1:=Qv.cell hk2 1;have g0:=Qd hk2 0;have g1:=Qd hk2 1;have hz:=Qv.lt hk2)
 exact bodyPost_ret (v:=.agg #[.bool false,.int .i64 1]) (by simp[results,Tryz.results15,go_sem,hz,k0,k1,g0,g1]) rfl ⟨rfl,Qz⟩
theorem rDead24_good (A:Option Addr) (n c k:Nat) (L:List Qh) (x:Qh) (w:World) (hL:Qs w A n L) (hf:∀ x∈L,Zw x.r) (hn:n≤1000) (hv:Xp L=true) (hx:L[k]? = some x) :
  Calls Tryz.prog 15 #[.slice A n c,.int .i64 (k:Int)] w (Zx w (.agg #[.bool (deAt x (Z5 L x.r.tags k)).1,.int .i64 (deAt x (Z5 L x.r.tags k)).2])):=by
 have hlen:=hL.len
 have hkn:k<n:=by have:=(List.getElem?_eq_some_iff.1 hx).1;omega
 have cV:=fun W (hb:Below w.heap.size w W)=>Vt A n c L W (hL.keep hb) hf (by omega)
 rw[hv]at cV
 have d0:decide ((k:Int)<0)=false:=decide_eq_false (by omega)
 have d1:decide ((n:Int)≤(k:Int))=false:=decide_eq_false (by omega)
 have hxm:=List.mem_of_getElem? hx
 have hro:=(Uu hv hxm).1
 have hco:=(valid_iff x.r.allow).1 hro.allow
 have hfx:=hf x hxm
 have cT:=fun W (hb:Below w.heap.size w W)=>rTags_any x.T x.r.tags.length x.ct x.r.tags W ((hL.each x hxm).keep hb).tags (by have:=hfx.nt;omega) (fun p hp=>by have:=hfx.t p hp;omega)
 unfold rTagsV at cT
 rw[rTagsR_eq]at cT
 have cEM:=fun (W:World) (hb:Below w.heap.size w W)=>rEmpty_any x.r.allow x.m W ((hL.each x hxm).allow.keep hb) hfx.c
 rw[hro.allow,if_pos rfl,Bool.true_and]at cEM
 unfold knownV at cEM
 obtain⟨_,b,o,rfl,hcell⟩:=hL.at_ hx
 have hld:=fun (W:World) (hb:Below w.heap.size w W)=>condA_load W b (o+k*18) x (fun j u hu=>Qq hb (hcell j u hu))
 have hc1:w.cell? ⟨b,o+k*18+1,none⟩=some (.string x.r.pat):=hcell 1 _ rfl
 have hc2:w.cell? ⟨b,o+k*18+2,none⟩=some (.slice x.T x.r.tags.length x.ct):=hcell 2 _ rfl
 have hc10:w.cell? ⟨b,o+k*18+8+2,none⟩=some (.string x.r.allow.pat):=hcell 10 _ rfl
 have hk0:(0:Int)≤(k:Int):=by omega
 have hk1:(k:Int)<(n:Int):=by omega
 have hpz:x.r.pat.size≠0:=YX hro.pat
 have hp2:x.r.pat.size≤200:=hfx.pat
 have hq2:=hfx.c.p
 have hqc:x.r.allow.pat.toList.isEmpty=false→(Qx x.r.allow.pat).isSome=true:=fun h=>by
  have h2:=hco.pat
  unfold Uc at h2
  rcases Nat.eq_zero_or_pos x.r.allow.pat.size with h3 | h3
  ·rw[Lib.toList_data]at h
   rw[Qn]at h3
   rw[List.eq_nil_of_length_eq_zero h3]at h
   cases h
  ·rwa [decide_eq_false (by omega),Bool.false_or]at h2
 have hpe:x.r.allow.pat.toList.isEmpty=true→X3 x.r.pat x.r.allow.pat=some x.r.pat:=fun h=>by
  have h3:x.r.allow.pat.size=0:=by
   rw[Lib.toList_data,List.isEmpty_iff]at h
   rw[Qn,h];rfl
  unfold X3
  rw[if_neg hpz,if_pos h3]
 have hms:∀ m,X3 x.r.pat x.r.allow.pat=some m→m.size≤100000:=fun m hm=>by
  unfold X3 at hm
  rw[if_neg hpz]at hm
  split at hm
  ·injection hm with hm
   subst hm
   omega
  ·rename_i hq
   have hqc:(Qx x.r.allow.pat).isSome=true:=by
    have:=hco.pat
    unfold Uc at this
    rwa [decide_eq_false hq,Bool.false_or]at this
   obtain⟨x1,h1⟩:=Option.isSome_iff_exists.1 hro.pat
   obtain⟨y1,h2⟩:=Option.isSome_iff_exists.1 hqc
   rw[h1,h2]at hm
   dsimp only at hm
   cases hcm:QK x1 y1 with
   | none=>rw[hcm]at hm;cases hm
   | some z =>
    rw[hcm]at hm
    injection hm with hm
    have hfz:=(J4 (Zq h1) (Zq h2) hcm).1
    subst hm
    have:=patS_size2 hfz;omega
 have hbm:=fun h=>bothR_meet hro.pat (hqc h)
 have cBo:=fun (W:World)=>rBoth2_any x.r.pat x.r.allow.pat W (by omega) (by omega)
 have cB:=fun W (hb:Below w.heap.size w W)=>rBefore24_any (some ⟨b,o,none⟩) n c k L x W (hL.keep hb) hx hn hf
 have cG:=fun (m:ByteArray) (hm:m.size≤100000) W (hb:Below w.heap.size w W) B d (hR:Reads W 1 B (Z5 L x.r.tags k).length ((Z5 L x.r.tags k).map .string))=>Y4 m B (Z5 L x.r.tags k).length d (Z5 L x.r.tags k) W hm hR (by have:=Wu L x.r.tags k;omega) (fun q hq=>by have:=bef_size hf x.r.tags k q hq;omega)
 generalize Z5 L x.r.tags k=bs at *
 obtain⟨R,hR⟩:∃ R,R=deAt x bs:=⟨_,rfl⟩
 rw[←hR]
 unfold deAt at hR
 obtain⟨ts,hts⟩:∃ ts,ts=(Ze x.r.tags).1:=⟨_,rfl⟩
 obtain⟨te,hte⟩:∃ te,te=(Ze x.r.tags).2:=⟨_,rfl⟩
 rw[←hts,←hte]at cT
 rw[←hte]at hR
 obtain⟨nn,hnn⟩:∃ nn,nn=decide (x.r.allow.till≤x.r.allow.fr):=⟨_,rfl⟩
 rw[←hnn]at cEM
 have HT:=Lib.hid cT;have HC1:=Lib.hid hc1;have HC2:=Lib.hid hc2;have HC10:=Lib.hid hc10;have HV:=Lib.hid cV;have HEM:=Lib.hid cEM;have HLD:=Lib.hid hld;have HBO:=Lib.hid cBo;have HB:=Lib.hid cB;have HG0:=Lib.hid cG;have HMS:=Lib.hid hms;have HBM:=Lib.hid hbm;have HPE:=Lib.hid hpe;have HRR:=Lib.hid hR;have HNN:=Lib.hid hnn;have HK2:=Lib.hid infKn24;have HJ2:=Lib.hid infJn24
 clear cT hc1 hc2 hc10 cV cEM hld cBo cB cG hms hbm hpe hR hnn hts hte hqc hpz hp2 hq2 hcell hfx hco hro hxm hx hv hf hL hlen
 go_enter Tryz.func15,Tryz.ntmps15
 go_upto_region 1 with fail
 generalize hw0:World.alloc _ _=w0
 have hk:Qv w0 w.heap.size 45 #[.bool false,.int .i64 0] (0,0):=by rw[←hw0];exact World.alloc_heap_new w _
 have hb0:Below w.heap.size w w0:=by rw[←hw0];exact Qk (Below.refl _ _) _
 clear hw0
 go_upto_region 4 with (first | ((go_at_call 36;refine (HV.out _ hb0).mono ?_;rintro e w2 ⟨rfl,hb2⟩;have hk2:=Qv.keep hk hb2;have k0:=Qv.cell hk2 0;have k1:=Qv.cell hk2 1;have g0:=Qd hk2 0;have g1:=Qd hk2 1;have hz:=Qv.lt hk2);have hb20:=Qj hb0 hb2;have z2:=Qq hb20 HC2.out) | (go_at_call 37;refine (HT.out _ hb20).mono ?_;rintro e w3 ⟨rfl,hb3⟩;have hk3:=Qv.keep hk2 hb3))
 generalize hw4:World.alloc _ _=w4
 have h5:Qv w4 w3.heap.size 83 #[.string ts,.int .i64 te] (0,0):=by rw[←hw4];exact World.alloc_heap_new w3 _
 have hb4:Below w3.heap.size w3 w4:=by rw[←hw4];exact Qk (Below.refl _ _) _
 have hk4:=Qv.keep hk3 hb4
 have hbw4:=Qj (Qj hb20 hb3) hb4
 obtain⟨g5,hg5⟩:∃ g5,g5=w3.heap.size:=⟨_,rfl⟩
 rw[←hg5]at h5 ⊢
 clear hg5 hw4 hk3 hk2 hk hb4 hb3 hb20 hb2 hb0 z2 k0 k1 g0 g1 hz w3
 go_upto_region 5 with (first | (refine Qw rfl 55 _ rfl ⟨b,o+k*18+8,none⟩ (Zy.val x.r.allow x.m) rfl (HLD.out _ hbw4) ?_) | (go_at_call 39;refine (HEM.out _ hbw4).mono ?_;rintro e w5 ⟨rfl,hb5⟩))
 generalize hw6:World.alloc _ _=w6
 have h6:Qv w6 w5.heap.size 86 #[.bool nn,.int .i64 0] (0,0):=by rw[←hw6];exact World.alloc_heap_new w5 _
 have hb6:Below w5.heap.size w5 w6:=by rw[←hw6];exact Qk (Below.refl _ _) _
 have hk6:=Qv.keep (Qv.keep hk4 hb5) hb6
 have h56:=Qv.keep (Qv.keep h5 hb5) hb6
 have hbw6:=Qj (Qj hbw4 hb5) hb6
 obtain⟨g6,hg6⟩:∃ g6,g6=w5.heap.size:=⟨_,rfl⟩
 rw[←hg6]at h6 ⊢
 clear hg6 hw6 hb6 hb5 hbw4 hk4 h5 w5 w4
 have c51:=Qv.cell h56 1
 have c60:=Qv.cell h6 0
 clear h56 h6
 (have k0:=Qv.cell hk6 0;have k1:=Qv.cell hk6 1;have g0:=Qd hk6 0;have g1:=Qd hk6 1;have hz:=Qv.lt hk6)
 by_cases ht:te=0
 rotate_left
 ·have e2:(te==0)=false:=beq_eq_false_iff_ne.2 ht
  have e3:(te != 0)=true:=bne_iff_ne.2 ht
  obtain rfl:R=(true,0):=by rw[HRR.out,if_neg ht]
  clear HRR HBM HPE HMS HG0 HB HBO
  go_wp2
  exact bodyPost_ret (v:=.agg #[.bool true,.int .i64 0]) (by simp[results,Tryz.results15,go_sem,hz,k0,k1,g0,g1]) rfl ⟨rfl,Qz⟩
 have e2:(te==0)=true:=beq_iff_eq.2 ht
 have e3:(te != 0)=false:=bne_eq_false_iff_eq.2 ht
 rcases Bool.eq_false_or_eq_true nn with hnn | hnn
 ·obtain rfl:R=(true,0):=by rw[HRR.out,if_pos ht,if_pos (of_decide_eq_true (by rw[←HNN.out,hnn]))]
  clear HRR HBM HPE HMS HG0 HB HBO HNN
  subst hnn
  clear e2 e3
  subst ht
  go_wp2
  exact bodyPost_ret (v:=.agg #[.bool true,.int .i64 0]) (by simp[results,Tryz.results15,go_sem,hz,k0,k1,g0,g1]) rfl ⟨rfl,Qz⟩
 have hr1:=HRR.out
 rw[if_pos ht,if_neg (of_decide_eq_false (by rw[←HNN.out,hnn]))]at hr1
 clear HNN HRR e2 e3
 subst hnn
 subst ht
 have z1:=Qq hbw6 HC1.out
 go_upto_region 8 with fail
 clear c51 c60 z1
 clear k0 k1 g0 g1 hz
 generalize hwp:World.alloc _ _=wp
 have hjp:Qv wp w6.heap.size 89 #[.string x.r.pat,.bool true,.int .i64 0] (0,0):=by rw[←hwp];exact World.alloc_heap_new w6 _
 have hb7:Below w6.heap.size w6 wp:=by rw[←hwp];exact Qk (Below.refl _ _) _
 have hkp:=Qv.keep hk6 hb7
 have hbp:=Qj hbw6 hb7
 obtain⟨g7,hg7⟩:∃ g7,g7=w6.heap.size:=⟨_,rfl⟩
 have hg7w:w.heap.size<g7:=by rw[hg7];exact Qv.lt hk6
 rw[←hg7]at hjp ⊢
 clear hwp hg7 hb7 hbw6 hk6 w6
 have z10:=Qq hbp HC10.out
 have p0:=Qv.cell hjp 0
 have p1:=Qv.cell hjp 1
 cases hqe:x.r.allow.pat.toList.isEmpty
 rotate_left
 ·have hm:=HPE.out hqe
  rw[hm]at hr1
  dsimp only at hr1
  have hG:=HG0.out x.r.pat (HMS.out _ hm)
  obtain⟨gv,hgv⟩:∃ gv,gv=(Jq x.r.pat bs).1:=⟨_,rfl⟩
  obtain⟨ge,hge⟩:∃ ge,ge=(Jq x.r.pat bs).2:=⟨_,rfl⟩
  rw[←hgv,←hge]at hG
  rw[←hgv]at hr1
  subst hr1
  have HG:=Lib.hid hG
  obtain⟨m,hme⟩:∃ m,m=x.r.pat:=⟨_,rfl⟩
  clear hG hgv hge hm HBM HPE HMS HG0 HBO
  go_upto_region 10 with fail
  clear z10 hjp hg7w
  rw[←hme]at p0 HG
  clear hme
  generalize hwq:wp=wq at hkp hbp p0 p1 ⊢
  clear hwq
  have hkq:=hkp
  have hbq:=hbp
  have j0:=p0
  have j1:=p1
  clear hkp hbp p0 p1
  go_upto_region 12 with fail
  clear j1
  refine Ye 7 (by kernel_rfl) (by kernel_rfl) (by kernel_rfl) (DL [Jz (.pointer (some ⟨g7,0,none⟩)),Jz (.string m),Jz (.slice (some ⟨b,o,none⟩) n c),Jz (.int .i64 (k:Int)),BfV bs,Jz (.agg #[.bool gv,.int .i64 ge]),AlK wq.heap.size]) (DL.keep _ (by simp only[WY];repeat' (first | apply And.intro | exact Uf _ | exact keeps_bfV _ | exact keeps_alK _ | exact trivial))) (fun W=>RowKit.Below wq.heap.size wq W) (RowKit.Below.drew (RowKit.Below.refl _ _)) (fun _ _ h hb=>Qj h hb) ?_ ?_
  ·dsimp only[List.take_succ_cons,List.take_zero,DetD]
   refine⟨fun vals W hS hd=>?_,fun vals W hS hd=>?_,fun vals W hS hd=>?_,fun vals W hS hd=>?_,fun vals W hS hd=>?_,fun vals W hS hd=>?_,fun vals W hS hd=>?_,trivial⟩
   rotate_left 4
   ·(try simp only[Ky,DL,Jz,List.getD_cons_zero,List.getD_cons_succ,Region.binds,and_true,true_and]at hd)
    simp only[QU,Zj,Act.put]
    (try simp only[hd])
    clear hd
    have hbW:=Qj hbq hS
    go_wp2_with (go_at_call 38;refine (HB.out _ hbW).mono ?_;rintro e w15 ⟨hb5,B,d,rfl,hr5⟩)
    exact⟨rfl,⟨B,d,rfl,hr5⟩,rfl,Qz⟩
   ·(try simp only[Ky,DL,Jz,List.getD_cons_zero,List.getD_cons_succ,Region.binds,and_true,true_and]at hd)
    obtain⟨e1,_,B,d,e2,hr5⟩:=hd
    simp only[QU,Zj,Act.put]
    (try simp only[e1,e2])
    have hbW:=Qj hbq hS
    go_wp2_with (go_at_call 13;refine (HG.out _ hbW _ _ hr5).mono ?_;rintro e w15 ⟨rfl,hb5⟩)
    exact⟨rfl,rfl,rfl,Qz⟩
   ·(try simp only[Ky,DL,Jz,List.getD_cons_zero,List.getD_cons_succ,Region.binds,and_true,true_and]at hd)
    simp only[QU,Zj,Act.put]
    (try simp only[hd])
    clear hd
    have hsz:=hS.size
    go_wp2
    exact⟨rfl,⟨_,rfl,World.alloc_heap_new W _,hsz⟩,rfl,Qz⟩
   all_goals
    (try simp only[Ky,DL,Jz,List.getD_cons_zero,List.getD_cons_succ,Region.binds,and_true,true_and]at hd)
    simp only[QU,Zj,Act.put]
    (try simp only[hd])
    clear hd
    have y1:=Qq hS j0
    go_wp2
    exact⟨rfl,rfl,rfl,Qz⟩
  ·intro vals w9 hS9 hD
   have e8:vals 5=.agg #[.bool gv,.int .i64 ge]:=hD 5 (by omega)
   obtain⟨g,e9,hg9,hgz⟩:AlK wq.heap.size (vals 6) w9:=hD 6 (by omega)
   simp only[QU,Zj,Act.put]
   simp only[e8,e9]
   clear hD e8 e9
   refine wpList_store_row rfl 45 _ _ rfl g #[.bool gv,.int .i64 ge] rfl rfl _ #[.bool false,.int .i64 0] hg9 HK2.out rfl (by simp[Value.oneCell']) ?_
   generalize hw16:World.setRow _ _ _=w16
   have hg6:Qv w16 g 45 #[.bool gv,.int .i64 ge] (0,0):=by rw[←hw16];exact setRow_heap _ _ _ _ _ _ hg9
   have hb16:RowKit.Below wq.heap.size wq w16:=by rw[←hw16];exact below_setRow hS9 hgz _
   have hk6:=Qv.keep hkq hb16
   (have k0:=Qv.cell hk6 0;have k1:=Qv.cell hk6 1;have g0:=Qd hk6 0;have g1:=Qd hk6 1;have hz:=Qv.lt hk6)
   have c0:=Qv.cell hg6 0
   have hgl:=Qv.lt hg6
   clear hw16 hg9 hS9 hkq
   go_wp2
   exact bodyPost_ret (v:=.agg #[.bool (!gv),.int .i64 0]) (by simp[results,Tryz.results15,go_sem,hz,k0,k1,g0,g1]) rfl ⟨rfl,Qz⟩
 have hbm:=HBM.out hqe
 have cBo:=HBO.out
 rw[hbm]at cBo
 cases hpm:X3 x.r.pat x.r.allow.pat with
 | none =>
  rw[hpm]at hr1 cBo
  dsimp only at hr1 cBo
  subst hr1
  have HBO2:=Lib.hid cBo
  clear cBo hbm hpm HBM HPE HMS HG0 HBO HB p0 p1
  go_upto_region 9 with fail
  clear z10
  refine Xo 12 (by kernel_rfl) (by kernel_rfl) (by kernel_rfl) (fun q9=>[.slice (some ⟨b,o,none⟩) n c,.int .i64 (k:Int),.pointer (some ⟨b,o+k*18,none⟩),.pointer (some ⟨b,o+k*18+1,none⟩),.string x.r.pat,.slice (some ⟨b,o,none⟩) n c,.int .i64 (k:Int),.pointer (some ⟨b,o+k*18,none⟩),.pointer (some ⟨b,o+k*18+8,none⟩),.pointer (some ⟨b,o+k*18+8+2,none⟩),.string x.r.allow.pat,.agg #[.string ⟨#[]⟩,.bool false,.int .i64 0]].getD q9 undef) (fun W=>RowKit.Below wp.heap.size wp W) (RowKit.Below.drew (RowKit.Below.refl _ _)) (fun _ _ h hb=>Qj h hb) ?_ ?_
  ·simp only[QU,Zj,Act.put]
   refine⟨fun W hS=>?_,fun W hS=>?_,fun W hS=>?_,fun W hS=>?_,fun W hS=>?_,fun W hS=>?_,fun W hS=>?_,fun W hS=>?_,fun W hS=>?_,fun W hS=>?_,fun W hS=>?_,fun W hS=>?_,trivial⟩
   rotate_left 11
   ·go_wp2_with (go_at_call 40;refine (HBO2.out _).mono ?_;rintro e w12 ⟨rfl,hb12⟩)
    exact⟨rfl,rfl,Qz⟩
   all_goals
    have y1:=Qq (Qj hbp hS) HC1.out
    have y10:=Qq (Qj hbp hS) HC10.out
    go_wp2
    exact⟨rfl,rfl,Qz⟩
  intro w19 hS19
  simp only[QU,Zj,Act.put]
  have hj19:=Qv.keep hjp hS19
  refine wpList_store_row rfl 89 _ _ rfl g7 #[.string ⟨#[]⟩,.bool false,.int .i64 0] rfl rfl _ #[.string x.r.pat,.bool true,.int .i64 0] hj19 HJ2.out rfl (by simp[Value.oneCell']) ?_
  generalize hwq:World.setRow _ _ _=wq
  have hj:Qv wq g7 89 #[.string ⟨#[]⟩,.bool false,.int .i64 0] (0,0):=by rw[←hwq];exact setRow_heap _ _ _ _ _ _ hj19
  have hbq:RowKit.Below w.heap.size w wq:=by rw[←hwq];exact below_setRow (Qj hbp hS19) (Nat.le_of_lt hg7w) _
  have hkq:Qv wq w.heap.size 45 #[.bool false,.int .i64 0] (0,0):=by rw[←hwq];exact (setRow_other w19 g7 w.heap.size _ (by omega)).trans (Qv.keep hkp hS19)
  clear hwq hj19 hS19 hkp hbp hjp hg7w
  have j0:=Qv.cell hj 0
  have j1:=Qv.cell hj 1
  clear hj
  have k0:=Qv.cell hkq 0
  have k1:=Qv.cell hkq 1
  have g0:=Qd hkq 0
  have g1:=Qd hkq 1
  have hz:=Qv.lt hkq
  go_wp2
  exact bodyPost_ret (v:=.agg #[.bool true,.int .i64 0]) (by simp[results,Tryz.results15,go_sem,hz,k0,k1,g0,g1]) rfl ⟨rfl,Qz⟩
 | some m =>
  rw[hpm]at hr1 cBo
  dsimp only at hr1 cBo
  have hG:=HG0.out m (HMS.out _ hpm)
  obtain⟨gv,hgv⟩:∃ gv,gv=(Jq m bs).1:=⟨_,rfl⟩
  obtain⟨ge,hge⟩:∃ ge,ge=(Jq m bs).2:=⟨_,rfl⟩
  rw[←hgv,←hge]at hG
  rw[←hgv]at hr1
  subst hr1
  have HG:=Lib.hid hG
  have HBO2:=Lib.hid cBo
  clear hG hgv hge cBo hbm hpm HBM HPE HMS HG0 HBO p0 p1
  go_upto_region 9 with fail
  clear z10
  refine Xo 12 (by kernel_rfl) (by kernel_rfl) (by kernel_rfl) (fun q9=>[.slice (some ⟨b,o,none⟩) n c,.int .i64 (k:Int),.pointer (some ⟨b,o+k*18,none⟩),.pointer (some ⟨b,o+k*18+1,none⟩),.string x.r.pat,.slice (some ⟨b,o,none⟩) n c,.int .i64 (k:Int),.pointer (some ⟨b,o+k*18,none⟩),.pointer (some ⟨b,o+k*18+8,none⟩),.pointer (some ⟨b,o+k*18+8+2,none⟩),.string x.r.allow.pat,.agg #[.string m,.bool true,.int .i64 0]].getD q9 undef) (fun W=>RowKit.Below wp.heap.size wp W) (RowKit.Below.drew (RowKit.Below.refl _ _)) (fun _ _ h hb=>Qj h hb) ?_ ?_
  ·simp only[QU,Zj,Act.put]
   refine⟨fun W hS=>?_,fun W hS=>?_,fun W hS=>?_,fun W hS=>?_,fun W hS=>?_,fun W hS=>?_,fun W hS=>?_,fun W hS=>?_,fun W hS=>?_,fun W hS=>?_,fun W hS=>?_,fun W hS=>?_,trivial⟩
   rotate_left 11
   ·go_wp2_with (go_at_call 40;refine (HBO2.out _).mono ?_;rintro e w12 ⟨rfl,hb12⟩)
    exact⟨rfl,rfl,Qz⟩
   all_goals
    have y1:=Qq (Qj hbp hS) HC1.out
    have y10:=Qq (Qj hbp hS) HC10.out
    go_wp2
    exact⟨rfl,rfl,Qz⟩
  intro w19 hS19
  simp only[QU,Zj,Act.put]
  have hj19:=Qv.keep hjp hS19
  refine wpList_store_row rfl 89 _ _ rfl g7 #[.string m,.bool true,.int .i64 0] rfl rfl _ #[.string x.r.pat,.bool true,.int .i64 0] hj19 HJ2.out rfl (by simp[Value.oneCell']) ?_
  generalize hwq:World.setRow _ _ _=wq
  have hj:Qv wq g7 89 #[.string m,.bool true,.int .i64 0] (0,0):=by rw[←hwq];exact setRow_heap _ _ _ _ _ _ hj19
  have hbq:RowKit.Below w.heap.size w wq:=by rw[←hwq];exact below_setRow (Qj hbp hS19) (Nat.le_of_lt hg7w) _
  have hkq:Qv wq w.heap.size 45 #[.bool false,.int .i64 0] (0,0):=by rw[←hwq];exact (setRow_other w19 g7 w.heap.size _ (by omega)).trans (Qv.keep hkp hS19)
  clear hwq hj19 hS19 hkp hbp hjp hg7w
  have j0:=Qv.cell hj 0
  have j1:=Qv.cell hj 1
  clear hj
  go_upto_region 12 with fail
  clear j1
  refine Ye 7 (by kernel_rfl) (by kernel_rfl) (by kernel_rfl) (DL [Jz (.pointer (some ⟨g7,0,none⟩)),Jz (.string m),Jz (.slice (some ⟨b,o,none⟩) n c),Jz (.int .i64 (k:Int)),BfV bs,Jz (.agg #[.bool gv,.int .i64 ge]),AlK wq.heap.size]) (DL.keep _ (by simp only[WY];repeat' (first | apply And.intro | exact Uf _ | exact keeps_bfV _ | exact keeps_alK _ | exact trivial))) (fun W=>RowKit.Below wq.heap.size wq W) (RowKit.Below.drew (RowKit.Below.refl _ _)) (fun _ _ h hb=>Qj h hb) ?_ ?_
  ·dsimp only[List.take_succ_cons,List.take_zero,DetD]
   refine⟨fun vals W hS hd=>?_,fun vals W hS hd=>?_,fun vals W hS hd=>?_,fun vals W hS hd=>?_,fun vals W hS hd=>?_,fun vals W hS hd=>?_,fun vals W hS hd=>?_,trivial⟩
   rotate_left 4
   ·(try simp only[Ky,DL,Jz,List.getD_cons_zero,List.getD_cons_succ,Region.binds,and_true,true_and]at hd)
    simp only[QU,Zj,Act.put]
    (try simp only[hd])
    clear hd
    have hbW:=Qj hbq hS
    go_wp2_with (go_at_call 38;refine (HB.out _ hbW).mono ?_;rintro e w15 ⟨hb5,B,d,rfl,hr5⟩)
    exact⟨rfl,⟨B,d,rfl,hr5⟩,rfl,Qz⟩
   ·(try simp only[Ky,DL,Jz,List.getD_cons_zero,List.getD_cons_succ,Region.binds,and_true,true_and]at hd)
    obtain⟨e1,_,B,d,e2,hr5⟩:=hd
    simp only[QU,Zj,Act.put]
    (try simp only[e1,e2])
    have hbW:=Qj hbq hS
    go_wp2_with (go_at_call 13;refine (HG.out _ hbW _ _ hr5).mono ?_;rintro e w15 ⟨rfl,hb5⟩)
    exact⟨rfl,rfl,rfl,Qz⟩
   ·(try simp only[Ky,DL,Jz,List.getD_cons_zero,List.getD_cons_succ,Region.binds,and_true,true_and]at hd)
    simp only[QU,Zj,Act.put]
    (try simp only[hd])
    clear hd
    have hsz:=hS.size
    go_wp2
    exact⟨rfl,⟨_,rfl,World.alloc_heap_new W _,hsz⟩,rfl,Qz⟩
   all_goals
    (try simp only[Ky,DL,Jz,List.getD_cons_zero,List.getD_cons_succ,Region.binds,and_true,true_and]at hd)
    simp only[QU,Zj,Act.put]
    (try simp only[hd])
    clear hd
    have y1:=Qq hS j0
    go_wp2
    exact⟨rfl,rfl,rfl,Qz⟩
  ·intro vals w9 hS9 hD
   have e8:vals 5=.agg #[.bool gv,.int .i64 ge]:=hD 5 (by omega)
   obtain⟨g,e9,hg9,hgz⟩:AlK wq.heap.size (vals 6) w9:=hD 6 (by omega)
   simp only[QU,Zj,Act.put]
   simp only[e8,e9]
   clear hD e8 e9
   refine wpList_store_row rfl 45 _ _ rfl g #[.bool gv,.int .i64 ge] rfl rfl _ #[.bool false,.int .i64 0] hg9 HK2.out rfl (by simp[Value.oneCell']) ?_
   generalize hw16:World.setRow _ _ _=w16
   have hg6:Qv w16 g 45 #[.bool gv,.int .i64 ge] (0,0):=by rw[←hw16];exact setRow_heap _ _ _ _ _ _ hg9
   have hb16:RowKit.Below wq.heap.size wq w16:=by rw[←hw16];exact below_setRow hS9 hgz _
   have hk6:=Qv.keep hkq hb16
   (have k0:=Qv.cell hk6 0;have k1:=Qv.cell hk6 1;have g0:=Qd hk6 0;have g1:=Qd hk6 1;have hz:=Qv.lt hk6)
   have c0:=Qv.cell hg6 0
   have hgl:=Qv.lt hg6
   clear hw16 hg9 hS9 hkq
   go_wp2
   exact bodyPost_ret (v:=.agg #[.bool (!gv),.int .i64 0]) (by simp[results,Tryz.results15,go_sem,hz,k0,k1,g0,g1]) rfl ⟨rfl,Qz⟩
end Go.Proofs.YticlbkficolocaaGreatDoor
