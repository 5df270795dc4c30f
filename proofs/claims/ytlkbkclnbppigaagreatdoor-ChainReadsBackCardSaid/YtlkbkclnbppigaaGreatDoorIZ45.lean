/- chain.Parse. -/
import Derived.Test.YtlkbkclnbppigaaGreatDoorIZ44
import Derived.Test.YtlkbkclnbppigaaGreatDoorIZ43
set_option maxHeartbeats 32000000
namespace Go.Proofs.YtlkbkclnbppigaaGreatDoor
open Go.RowKit Go.Sort
set_option linter.unusedVariables false
set_option linter.unusedSimpArgs false
set_option maxRecDepth 100000
theorem parse25_any (s:ByteArray) (w:World) (hs:s.size≤131072) (hfs:∀ x∈splitB 59 s,x.size≤100000) (hE:Env w) (hX:Errs w) (hTb:Tab w) (h5:5<w.heap.size) :
  Calls Tryz.prog 37 #[.string s] w (TokPost (parseV s).1 (parseV s).2 w):=by
 have hmf:∀ (fn:Fn) (first cap:Array Value) (w:World),(Instr.makeFunc fn first cap).run Tryz.prog w=.ok (.func fn first cap) w:=fun _ _ _ _=>rfl
 obtain⟨R,hRR⟩:∃ R,R=TokPost (parseV s).1 (parseV s).2 w:=⟨_,rfl⟩
 rw[←hRR]
 have hdie:readT s=none→R=TokPost zeroT 3 w:=fun h=>by rw[hRR,parseV_none hs h]
 have hgo:∀ t,readT s=some t→R=TokPost t 0 w:=fun t h=>by rw[hRR,parseV_some hs h]
 have hsp:=fun W (hb:Below w.heap.size w W)=>strSplit_any s 59 W (by omega) (hE.keep hb)
 have hnl:=splitB_num 59 s
 unfold readT at hdie hgo
 generalize splitB 59 s=F at *
 have HDIE:=Lib.hid hdie;have HGO:=Lib.hid hgo;have HSP:=Lib.hid hsp;have HE:=Lib.hid hE;have HX:=Lib.hid hX;have HTB:=Lib.hid hTb;have HFS:=Lib.hid hfs
 clear hdie hgo hsp hE hX hTb hfs hRR
 obtain⟨n,hn⟩:∃ n,n=F.length:=⟨_,rfl⟩
 rw[←hn]at HSP hnl
 have HN:=Lib.hid hn
 clear hn
 have i1:¬ (131072:Int)<(s.size:Int):=by omega
 refine calls_of_wp_defers Tryz.func37 rfl ?_;simp only[Tryz.ntmps37,List.size_toArray,List.length_cons,List.length_nil,Nat.reduceAdd,Nat.reduceSub,Array.replicate_succ,Array.replicate_zero,List.push_toArray,List.append_toArray,List.nil_append,List.cons_append]
 go_upto_region 1 with fail
 generalize hw0:World.alloc _ _=w0
 have hP0:PaS w (#[.int .i64 0,.int .i64 0,.string ⟨#[]⟩,.slice none 0 0,.int .u8 0,.int .u8 0,.int .u8 0,.int .u8 0,.int .u8 0,.int .u8 0,.int .u8 0,.int .u8 0,.int .u8 0,.int .u8 0,.int .u8 0,.int .u8 0,.int .u8 0,.int .u8 0,.int .u8 0,.int .u8 0]:Array Value) 0 w0:=by rw[←hw0];exact⟨(alloc2_box w _ _).1,(alloc2_box w _ _).2,belB⟩
 have hz0:w0.heap.size=w.heap.size+2:=by rw[←hw0];simp
 clear hw0
 go_upto_region 5 with (go_at_call 75;refine (HSP.out w0 hP0.b).mono ?_;rintro e w1 ⟨rfl,hR1,hb1⟩)
 have hP1:=hP0.keep hb1 (by omega)
 rw[hz0]at hR1
 have HP1:=Lib.hid hP1;have HR1:=Lib.hid hR1
 clear hz0 hb1 hP1 hR1 hP0 HSP i1
 by_cases hn5:5≤n∧n≤20
 rotate_left
 ·have HR:=Lib.hid <| HDIE.out (if_neg (by
   intro h
   simp only[Bool.and_eq_true]at h
   have:=h.1.1.1
   unfold okF at this
   simp only[Bool.and_eq_true,decide_eq_true_eq]at this
   have:=this.1.1.1
   rw[←HN.out]at this
   exact hn5 this))
  clear HDIE HGO
  by_cases h5n:5≤n
  ·have i2:¬ (n:Int)≤20:=by omega
   have i3:(5:Int)≤(n:Int):=by omega
   go_wp2_with (go_at_call 76;refine (must_no _).mono ?_;rintro e w4 ⟨rfl,hmw⟩;subst hmw)
   rw[HR.out]
   exact parse_dies HP1.out rfl rfl rfl
  ·have i3:¬ (5:Int)≤(n:Int):=by omega
   go_wp2_with (go_at_call 76;refine (must_no _).mono ?_;rintro e w4 ⟨rfl,hmw⟩;subst hmw)
   rw[HR.out]
   exact parse_dies HP1.out rfl rfl rfl
 have i2:(n:Int)≤20:=by omega
 have i3:(5:Int)≤(n:Int):=by omega
 go_upto_region 6 with (go_at_call 76;refine (must_yes _).mono ?_;rintro e w4 ⟨rfl,hmw⟩;subst hmw)
 have hcl:∀ (k:Nat),k<n→∃ x,F[k]? = some x∧∀ W,(PaS w (#[.int .i64 0,.int .i64 0,.string ⟨#[]⟩,.slice none 0 0,.int .u8 0,.int .u8 0,.int .u8 0,.int .u8 0,.int .u8 0,.int .u8 0,.int .u8 0,.int .u8 0,.int .u8 0,.int .u8 0,.int .u8 0,.int .u8 0,.int .u8 0,.int .u8 0,.int .u8 0,.int .u8 0]:Array Value) 0 W∧Reads W 1 (some ⟨w.heap.size+2,0,none⟩) n (F.map .string))→W.cell? ⟨w.heap.size+2,k,none⟩=some (.string x):=fun k hk=>by
  obtain⟨x,hx⟩:∃ x,F[k]? = some x:=⟨_,List.getElem?_eq_getElem (by rw[←HN.out];exact hk)⟩
  refine⟨x,hx,fun W hW=>?_⟩
  obtain⟨b,o,e,hc⟩:=hW.2.2 (by omega)
  injection e with e
  injection e with e1 e2
  subst e1;subst e2
  have:=hc k (.string x) (by rw[List.getElem?_map,hx];rfl)
  rwa [Nat.zero_add]at this
 obtain⟨x0,hx0,hc0⟩:=hcl 0 (by omega)
 obtain⟨x1,hx1,hc1⟩:=hcl 1 (by omega)
 obtain⟨x2,hx2,hc2⟩:=hcl 2 (by omega)
 have g0:F.getD 0 tilde=x0:=by rw[List.getD_eq_getElem?_getD,hx0];rfl
 have g1:F.getD 1 tilde=x1:=by rw[List.getD_eq_getElem?_getD,hx1];rfl
 have g2:F.getD 2 tilde=x2:=by rw[List.getD_eq_getElem?_getD,hx2];rfl
 have z0:=HFS.out x0 (List.mem_of_getElem? hx0)
 have z1:=HFS.out x1 (List.mem_of_getElem? hx1)
 have HX0:=Lib.hid hc0;have HX1:=Lib.hid hc1;have HX2:=Lib.hid hc2;have HG0:=Lib.hid g0;have HG1:=Lib.hid g1;have HG2:=Lib.hid g2
 clear hcl hc0 hc1 hc2 hx0 hx1 hx2 g0 g1 g2
 have i0:(0:Int)<(n:Int):=by omega
 have i4:(1:Int)<(n:Int):=by omega
 have i5:(2:Int)<(n:Int):=by omega
 have i6:0<n:=by omega
 have i7:1<n:=by omega
 have i8:2<n:=by omega
 by_cases hnum:numOk x0=true∧numOk x1=true
 rotate_left
 ·have HR:=Lib.hid <| HDIE.out (if_neg (by
   intro h
   simp only[Bool.and_eq_true]at h
   rw[HG0.out,HG1.out]at h
   exact hnum ⟨h.1.1.2,h.1.2⟩))
  refine Code.wp_mono (Q:=DieQ w) (fun e a W h=>?imp) ?_
  case imp =>
   cases e with
   | panic c=>exact DieQ.dies HR.out h
   | _=>exact h.elim
  clear HR
  refine wp_region_held_drew (S:=fun W=>PaS w (#[.int .i64 0,.int .i64 0,.string ⟨#[]⟩,.slice none 0 0,.int .u8 0,.int .u8 0,.int .u8 0,.int .u8 0,.int .u8 0,.int .u8 0,.int .u8 0,.int .u8 0,.int .u8 0,.int .u8 0,.int .u8 0,.int .u8 0,.int .u8 0,.int .u8 0,.int .u8 0,.int .u8 0]:Array Value) 0 W∧Reads W 1 (some ⟨w.heap.size+2,0,none⟩) n (F.map .string)) (by kernel_rfl) ⟨HP1.out.keep (B:=w.heap.size+2) (Below.drew (Below.refl _ _)) (Nat.le_refl _),HR1.out.keep (Below.drew (Below.refl _ _))⟩ (fun hS=>?_)
  refine wpAnyH_take (i:=0) (v:=(.slice (some ⟨w.heap.size+2,0,none⟩) n n)) rfl (by kernel_rfl) (by kernel_rfl) (by kernel_rfl) (fun _ _ _ h=>DieQ.put (d:=29) (by decide) (by decide) h) (Or.inl ⟨by rfl,?tk0⟩) hS ?_
  case tk0=>(intro W hSW;go_simp;try with_reducible rfl)
  (try simp only[Act.put,List.setIfInBounds_toArray,List.set_cons_zero,List.set_cons_succ])
  refine wpAnyH_take (i:=1) (v:=(.pointer (some ⟨w.heap.size+2,0,none⟩))) rfl (by kernel_rfl) (by kernel_rfl) (by kernel_rfl) (fun _ _ _ h=>DieQ.put (d:=30) (by decide) (by decide) h) (Or.inl ⟨by rfl,?tk1⟩) hS ?_
  case tk1=>(intro W hSW;go_simp;try with_reducible rfl)
  (try simp only[Act.put,List.setIfInBounds_toArray,List.set_cons_zero,List.set_cons_succ])
  refine wpAnyH_take (i:=2) (v:=(.string x0)) rfl (by kernel_rfl) (by kernel_rfl) (by kernel_rfl) (fun _ _ _ h=>DieQ.put (d:=31) (by decide) (by decide) h) (Or.inl ⟨by rfl,?tk2⟩) hS ?_
  case tk2=>(intro W hSW;have hc:=HX0.out W hSW;go_simp;try with_reducible rfl)
  (try simp only[Act.put,List.setIfInBounds_toArray,List.set_cons_zero,List.set_cons_succ])
  refine wpAnyH_take (i:=4) (v:=(.slice (some ⟨w.heap.size+2,0,none⟩) n n)) rfl (by kernel_rfl) (by kernel_rfl) (by kernel_rfl) (fun _ _ _ h=>DieQ.put (d:=33) (by decide) (by decide) h) (Or.inl ⟨by rfl,?tk4⟩) hS ?_
  case tk4=>(intro W hSW;go_simp;try with_reducible rfl)
  (try simp only[Act.put,List.setIfInBounds_toArray,List.set_cons_zero,List.set_cons_succ])
  refine wpAnyH_take (i:=5) (v:=(.pointer (some ⟨w.heap.size+2,1,none⟩))) rfl (by kernel_rfl) (by kernel_rfl) (by kernel_rfl) (fun _ _ _ h=>DieQ.put (d:=34) (by decide) (by decide) h) (Or.inl ⟨by rfl,?tk5⟩) hS ?_
  case tk5=>(intro W hSW;go_simp;try with_reducible rfl)
  (try simp only[Act.put,List.setIfInBounds_toArray,List.set_cons_zero,List.set_cons_succ])
  refine wpAnyH_take (i:=6) (v:=(.string x1)) rfl (by kernel_rfl) (by kernel_rfl) (by kernel_rfl) (fun _ _ _ h=>DieQ.put (d:=35) (by decide) (by decide) h) (Or.inl ⟨by rfl,?tk6⟩) hS ?_
  case tk6=>(intro W hSW;have hc:=HX1.out W hSW;go_simp;try with_reducible rfl)
  (try simp only[Act.put,List.setIfInBounds_toArray,List.set_cons_zero,List.set_cons_succ])
  refine wpAnyH_take (i:=8) (v:=(.slice (some ⟨w.heap.size+2,0,none⟩) n n)) rfl (by kernel_rfl) (by kernel_rfl) (by kernel_rfl) (fun _ _ _ h=>DieQ.put (d:=37) (by decide) (by decide) h) (Or.inl ⟨by rfl,?tk8⟩) hS ?_
  case tk8=>(intro W hSW;go_simp;try with_reducible rfl)
  (try simp only[Act.put,List.setIfInBounds_toArray,List.set_cons_zero,List.set_cons_succ])
  refine wpAnyH_take (i:=9) (v:=(.pointer (some ⟨w.heap.size+2,2,none⟩))) rfl (by kernel_rfl) (by kernel_rfl) (by kernel_rfl) (fun _ _ _ h=>DieQ.put (d:=38) (by decide) (by decide) h) (Or.inl ⟨by rfl,?tk9⟩) hS ?_
  case tk9=>(intro W hSW;go_simp;try with_reducible rfl)
  (try simp only[Act.put,List.setIfInBounds_toArray,List.set_cons_zero,List.set_cons_succ])
  refine wpAnyH_take (i:=10) (v:=(.string x2)) rfl (by kernel_rfl) (by kernel_rfl) (by kernel_rfl) (fun _ _ _ h=>DieQ.put (d:=39) (by decide) (by decide) h) (Or.inl ⟨by rfl,?tk10⟩) hS ?_
  case tk10=>(intro W hSW;have hc:=HX2.out W hSW;go_simp;try with_reducible rfl)
  (try simp only[Act.put,List.setIfInBounds_toArray,List.set_cons_zero,List.set_cons_succ])
  have hlo:w.heap.size+2<(World.drew _).heap.size:=reads_low (by decide) hS.2 (by omega) _ rfl
  by_cases hnu:numOk x0=true
  rotate_left
  ·have hnf:numOk x0=false:=by simpa using hnu
   have hno:=number25_no x0 _ (by omega) (HX.out.keep hS.1.b) (HTB.out.keep hS.1.b) hnf
   refine wpAnyH_ready (rs:=[3]) (by kernel_rfl) (by simp) ?_
   refine AllReadyH.cons (o:=_) rfl (fun K hK=>?_) AllReadyH.nil
   go_simp
   go_at_call 77
   refine hno.mono ?_
   rintro e w5 ⟨rfl,hb5⟩
   exact⟨rfl,rfl,rfl,rfl,hS.1.keep hb5 (by omega)⟩
  have hnf:numOk x1=false:=by
   cases h:numOk x1 with
   | false=>rfl
   | true=>exact absurd ⟨hnu,h⟩ hnum
  have hyes:=number25_yes x0 _ (by omega) (HX.out.keep hS.1.b) (HTB.out.keep hS.1.b) hnu
  refine wpAnyH_ready (rs:=[3]) (by kernel_rfl) (by simp) ?_
  refine AllReadyH.cons (o:=_) rfl (fun K hK=>?_) AllReadyH.nil
  go_simp
  go_at_call 77
  refine hyes.mono ?_
  rintro e w5 ⟨rfl,hb5⟩
  have hS5:PaS w (#[.int .i64 0,.int .i64 0,.string ⟨#[]⟩,.slice none 0 0,.int .u8 0,.int .u8 0,.int .u8 0,.int .u8 0,.int .u8 0,.int .u8 0,.int .u8 0,.int .u8 0,.int .u8 0,.int .u8 0,.int .u8 0,.int .u8 0,.int .u8 0,.int .u8 0,.int .u8 0,.int .u8 0]:Array Value) 0 w5∧Reads w5 1 (some ⟨w.heap.size+2,0,none⟩) n (F.map .string):=⟨hS.1.keep hb5 (by omega),hS.2.keep hb5⟩
  go_simp
  refine hK.out _ _ hS5 (fun _=>?_)
  clear hK
  (try simp only[Act.put,List.setIfInBounds_toArray,List.set_cons_zero,List.set_cons_succ])
  have hlo5:w.heap.size+2<w5.heap.size:=reads_low (by decide) hS5.2 (by omega) _ rfl
  have hno:=number25_no x1 w5 (by omega) (HX.out.keep hS5.1.b) (HTB.out.keep hS5.1.b) hnf
  refine wpAnyH_ready (rs:=[7]) (by kernel_rfl) (by simp) ?_
  refine AllReadyH.cons (o:=_) rfl (fun K hK=>?_) AllReadyH.nil
  go_simp
  go_at_call 77
  refine hno.mono ?_
  rintro e w6 ⟨rfl,hb6⟩
  exact⟨rfl,rfl,rfl,rfl,hS5.1.keep hb6 (by omega)⟩
 have hnu0:=fun (W:World) (hb:Below w.heap.size w W)=>number25_yes x0 W (by omega) (HX.out.keep hb) (HTB.out.keep hb) hnum.1
 have hnu1:=fun (W:World) (hb:Below w.heap.size w W)=>number25_yes x1 W (by omega) (HX.out.keep hb) (HTB.out.keep hb) hnum.2
 have HNU0:=Lib.hid hnu0;have HNU1:=Lib.hid hnu1;have HNUM:=Lib.hid hnum
 clear hnu0 hnu1 hnum
 generalize hN0:atoiN x0=N0 at *
 generalize hN1:atoiN x1=N1 at *
 have HN0:=Lib.hid hN0;have HN1:=Lib.hid hN1
 clear hN0 hN1
 refine wp_detD 12 (by kernel_rfl) (by kernel_rfl) (by kernel_rfl) (DL [IsV (.slice (some ⟨w.heap.size+2,0,none⟩) n n),IsV (.pointer (some ⟨w.heap.size+2,0,none⟩)),IsV (.string x0),IsV (.int .i64 N0),IsV (.slice (some ⟨w.heap.size+2,0,none⟩) n n),IsV (.pointer (some ⟨w.heap.size+2,1,none⟩)),IsV (.string x1),IsV (.int .i64 N1),IsV (.slice (some ⟨w.heap.size+2,0,none⟩) n n),IsV (.pointer (some ⟨w.heap.size+2,2,none⟩)),IsV (.string x2),IsV (.agg #[.int .i64 N0,.int .i64 N1,.string x2,.slice none 0 0,.int .u8 0,.int .u8 0,.int .u8 0,.int .u8 0,.int .u8 0,.int .u8 0,.int .u8 0,.int .u8 0,.int .u8 0,.int .u8 0,.int .u8 0,.int .u8 0,.int .u8 0,.int .u8 0,.int .u8 0,.int .u8 0])]) (DL.keep _ (by simp only[KeepAll];repeat' (first | apply And.intro | exact keeps_is _ | exact trivial))) (fun W=>PaS w (#[.int .i64 0,.int .i64 0,.string ⟨#[]⟩,.slice none 0 0,.int .u8 0,.int .u8 0,.int .u8 0,.int .u8 0,.int .u8 0,.int .u8 0,.int .u8 0,.int .u8 0,.int .u8 0,.int .u8 0,.int .u8 0,.int .u8 0,.int .u8 0,.int .u8 0,.int .u8 0,.int .u8 0]:Array Value) 0 W∧Reads W 1 (some ⟨w.heap.size+2,0,none⟩) n (F.map .string)) ?s0 (fun W W' h hb=>⟨h.1.keep hb (by have:=h.2;have h2:=reads_low (by decide) h.2 (by omega) _ rfl;dsimp only at h2;omega),h.2.keep hb⟩) ?_ ?_
 case s0=>exact⟨HP1.out.keep (B:=w.heap.size+2) (Below.drew (Below.refl _ _)) (Nat.le_refl _),HR1.out.keep (Below.drew (Below.refl _ _))⟩
 ·dsimp only[List.take_succ_cons,List.take_zero,DetD]
  refine⟨fun vals W hS hd=>?_,fun vals W hS hd=>?_,fun vals W hS hd=>?_,fun vals W hS hd=>?_,fun vals W hS hd=>?_,fun vals W hS hd=>?_,fun vals W hS hd=>?_,fun vals W hS hd=>?_,fun vals W hS hd=>?_,fun vals W hS hd=>?_,fun vals W hS hd=>?_,fun vals W hS hd=>?_,trivial⟩
  ·(try simp only[DepsL,DL,IsV,List.getD_cons_zero,List.getD_cons_succ,Region.binds,and_true,true_and]at hd)
   simp only[putL,putF,Act.put]
   (try simp only[hd])
   clear hd
   go_wp2
   exact⟨rfl,rfl,rfl,belB⟩
  ·(try simp only[DepsL,DL,IsV,List.getD_cons_zero,List.getD_cons_succ,Region.binds,and_true,true_and]at hd)
   simp only[putL,putF,Act.put]
   (try simp only[hd])
   clear hd
   go_wp2
   exact⟨rfl,rfl,rfl,belB⟩
  ·(try simp only[DepsL,DL,IsV,List.getD_cons_zero,List.getD_cons_succ,Region.binds,and_true,true_and]at hd)
   simp only[putL,putF,Act.put]
   (try simp only[hd])
   clear hd
   have hc:=HX0.out W hS
   go_wp2
   exact⟨rfl,rfl,rfl,belB⟩
  ·(try simp only[DepsL,DL,IsV,List.getD_cons_zero,List.getD_cons_succ,Region.binds,and_true,true_and]at hd)
   simp only[putL,putF,Act.put]
   (try simp only[hd])
   clear hd
   have hbW:=hS.1.b
   go_wp2_with (go_at_call 77;refine (HNU0.out _ hbW).mono ?_;rintro e w5 ⟨rfl,hb5⟩)
   exact⟨rfl,rfl,rfl,belB⟩
  ·(try simp only[DepsL,DL,IsV,List.getD_cons_zero,List.getD_cons_succ,Region.binds,and_true,true_and]at hd)
   simp only[putL,putF,Act.put]
   (try simp only[hd])
   clear hd
   go_wp2
   exact⟨rfl,rfl,rfl,belB⟩
  ·(try simp only[DepsL,DL,IsV,List.getD_cons_zero,List.getD_cons_succ,Region.binds,and_true,true_and]at hd)
   simp only[putL,putF,Act.put]
   (try simp only[hd])
   clear hd
   go_wp2
   exact⟨rfl,rfl,rfl,belB⟩
  ·(try simp only[DepsL,DL,IsV,List.getD_cons_zero,List.getD_cons_succ,Region.binds,and_true,true_and]at hd)
   simp only[putL,putF,Act.put]
   (try simp only[hd])
   clear hd
   have hc:=HX1.out W hS
   go_wp2
   exact⟨rfl,rfl,rfl,belB⟩
  ·(try simp only[DepsL,DL,IsV,List.getD_cons_zero,List.getD_cons_succ,Region.binds,and_true,true_and]at hd)
   simp only[putL,putF,Act.put]
   (try simp only[hd])
   clear hd
   have hbW:=hS.1.b
   go_wp2_with (go_at_call 77;refine (HNU1.out _ hbW).mono ?_;rintro e w5 ⟨rfl,hb5⟩)
   exact⟨rfl,rfl,rfl,belB⟩
  ·(try simp only[DepsL,DL,IsV,List.getD_cons_zero,List.getD_cons_succ,Region.binds,and_true,true_and]at hd)
   simp only[putL,putF,Act.put]
   (try simp only[hd])
   clear hd
   go_wp2
   exact⟨rfl,rfl,rfl,belB⟩
  ·(try simp only[DepsL,DL,IsV,List.getD_cons_zero,List.getD_cons_succ,Region.binds,and_true,true_and]at hd)
   simp only[putL,putF,Act.put]
   (try simp only[hd])
   clear hd
   go_wp2
   exact⟨rfl,rfl,rfl,belB⟩
  ·(try simp only[DepsL,DL,IsV,List.getD_cons_zero,List.getD_cons_succ,Region.binds,and_true,true_and]at hd)
   simp only[putL,putF,Act.put]
   (try simp only[hd])
   clear hd
   have hc:=HX2.out W hS
   go_wp2
   exact⟨rfl,rfl,rfl,belB⟩
  ·(try simp only[DepsL,DL,IsV,List.getD_cons_zero,List.getD_cons_succ,Region.binds,and_true,true_and]at hd)
   obtain⟨e1,e2,e3⟩:=hd
   simp only[putL,putF,Act.put]
   (try simp only[e1,e2,e3])
   clear e1 e2 e3
   go_wp2
   exact⟨rfl,rfl,rfl,belB⟩
 ·intro vals w9 hS9 hD9
  have e11:vals 11=.agg #[.int .i64 N0,.int .i64 N1,.string x2,.slice none 0 0,.int .u8 0,.int .u8 0,.int .u8 0,.int .u8 0,.int .u8 0,.int .u8 0,.int .u8 0,.int .u8 0,.int .u8 0,.int .u8 0,.int .u8 0,.int .u8 0,.int .u8 0,.int .u8 0,.int .u8 0,.int .u8 0]:=hD9 11 (by omega)
  simp only[putL,putF,Act.put]
  simp only[e11,Nat.zero_add,Nat.reduceAdd]
  clear hD9 e11
  have hlo9:w.heap.size+2<w9.heap.size:=reads_low (by decide) hS9.2 (by omega) _ rfl
  have hP9:PcS w F n N0 N1 x2 zeroS 0 [] none 0 (w9.setRow w.heap.size (tokCells N0 N1 x2 none 0 0 zeroS).toArray):=by
   have hother:∀ j,j≠w.heap.size→(w9.setRow w.heap.size (tokCells N0 N1 x2 none 0 0 zeroS).toArray).heap[j]? = w9.heap[j]?:=fun j hj=>setRow_other _ _ _ _ hj
   refine⟨⟨setRow_heap _ _ _ _ _ _ hS9.1.t,(hother _ (by omega)).trans hS9.1.e,below_setRow hS9.1.b (Nat.le_refl _) _⟩,reads_other (g:=w.heap.size) (fun j hj=>hother j hj) hS9.2 (fun _ a e=>by injection e with e;subst e;show w.heap.size+2≠_;omega),World.ownsRow_nil _ _ _ _,fun y hy=>by (cases hy),fun y hy=>by (cases hy),fun y hy=>by (cases hy),rfl,rfl,fun y hy=>by (cases hy),?_⟩
   rw[size_setRow];omega
  have HP9:=Lib.hid hP9
  have HT9:=Lib.hid hS9.1.t
  have hone:(tokCells N0 N1 x2 none 0 0 zeroS).toArray.all (·.oneCell')=true:=tok_one N0 N1 x2 none 0 0 zeroS
  have HON:=Lib.hid hone
  clear hP9 hS9 hlo9 hone HP1 HR1 HX0 HX1 HX2 HNU0 HNU1
  go_upto_region 7 with (refine wpList_store_row rfl 32 _ _ rfl w.heap.size (tokCells N0 N1 x2 none 0 0 zeroS).toArray rfl rfl _ (#[.int .i64 0,.int .i64 0,.string ⟨#[]⟩,.slice none 0 0,.int .u8 0,.int .u8 0,.int .u8 0,.int .u8 0,.int .u8 0,.int .u8 0,.int .u8 0,.int .u8 0,.int .u8 0,.int .u8 0,.int .u8 0,.int .u8 0,.int .u8 0,.int .u8 0,.int .u8 0,.int .u8 0]:Array Value) HT9.out infTok rfl HON.out ?_)
  clear HT9 HON
  generalize World.setRow _ _ _=wa at *
  have i9:((n:Int)-1)≤n:=by omega
  have i10:(3:Int)≤(n:Int)-1:=by omega
  obtain⟨z,hz⟩:∃ z,F[n-1]? = some z:=⟨_,List.getElem?_eq_getElem (by have:=HN.out;omega)⟩
  have HZ:=Lib.hid hz
  clear hz
  have hcp:=fun (x:ByteArray) (hx:x∈F) (W:World) (hb:Below w.heap.size w W)=>condParseF_any x W (HFS.out x hx) (HE.out.keep hb) (HX.out.keep hb) (HTB.out.keep hb) (Nat.lt_of_lt_of_le h5 hb.size)
  have HCP:=Lib.hid hcp
  obtain⟨ii,hi0,hz0,hz1,hz2⟩:=info_parts infCond
  have HI:=Lib.hid (And.intro hi0 (And.intro hz0 (And.intro hz1 hz2)))
  clear hi0 hz0 hz1 hz2 hcp
  go_wp2
  go_loopw [47] (fun vi wr=>∃ (k:Nat) (L:List CoM) (A:Option Addr) (c:Nat),(vi=.int .i64 k∧k≤n-4)∧Hid (PcS w F n N0 N1 x2 zeroS k L A c wr)) (fun vi _=>n-(intOf vi).toNat)
  case atStart=>exact⟨0,[],none,0,⟨rfl,Nat.zero_le _⟩,HP9⟩
  case round =>
   obtain⟨k,L,A,c,⟨rfl,hk⟩,HS⟩:=hrel
   clear HP9
   by_cases hlt:k<n-4
   ·obtain⟨x,hx⟩:∃ x,F[3+k]? = some x:=⟨_,List.getElem?_eq_getElem (by have:=HN.out;omega)⟩
    have hcl:=HS.out.field hx (by omega)
    have hk0:(0:Int)≤(k:Int):=by omega
    have hk1:(k:Int)<((n-1-3:Nat):Int):=by omega
    have hk2:k<n-1-3:=by omega
    have hbr:=HS.out.p.b
    have hcx:=HCP.out x (List.mem_of_getElem? hx) wr hbr
    rw[show (readC x).getD zeroC=cvF x from rfl]at hcx
    unfold ReadPostF at hcx
    simp only[val_condA]at hcx
    have HXX:=Lib.hid hx
    cases hok:(readC x).isSome
    ·have HR:=Lib.hid <| HDIE.out (if_neg (by
      intro h
      simp only[Bool.and_eq_true]at h
      exact mid_bad hx hlt hok ((okF_iff HN.out.symm hn5.1 hn5.2 HZ.out).1 h.1.1.1).1))
     rw[hok,if_neg (by decide)]at hcx
     have HCX:=Lib.hid hcx
     clear hcx hx hok HDIE HGO
     go_upto_region 11 with (first
      | (go_at_call 78;refine HCX.out.mono ?_;rintro e w3 ⟨hb3,m,rfl,hr3,hf3⟩)
      | (refine wpList_store_row rfl 27 _ _ rfl w3.heap.size (condA (cvF x) m) rfl rfl _ #[.int .i64 0,.int .i64 0,.string ⟨#[]⟩,.slice none 0 0,.slice none 0 0,.slice none 0 0,.int .i64 0] (heap_alloc_new w3 _) infC7 rfl (condA_one _ _) ?_))
     (try dsimp only[Act.put])
     generalize hwb:World.setRow _ _ _=wb
     have hbb:Below w3.heap.size w3 wb:=by rw[←hwb];exact below_setRow (below_alloc _ _) (Nat.le_refl _) _
     have hS3:=(HS.out.keep hb3).keep hbb
     clear hwb
     go_wp2_with (go_at_call 76;refine (must_no _).mono ?_;rintro e w4 ⟨rfl,hmw⟩;subst hmw)
     rw[HR.out]
     exact parse_dies hS3.p (hS3.size rfl) rfl rfl
    ·rw[hok,if_pos rfl]at hcx
     have HCX:=Lib.hid hcx;have HOK:=Lib.hid hok
     clear hcx hx hok
     go_upto_region 11 with (first
      | (go_at_call 78;refine HCX.out.mono ?_;rintro e w3 ⟨hb3,m,rfl,hr3,hf3⟩)
      | (refine wpList_store_row rfl 27 _ _ rfl w3.heap.size (condA (cvF x) m) rfl rfl _ #[.int .i64 0,.int .i64 0,.string ⟨#[]⟩,.slice none 0 0,.slice none 0 0,.slice none 0 0,.int .i64 0] (heap_alloc_new w3 _) infC7 rfl (condA_one _ _) ?_))
     (try dsimp only[Act.put])
     generalize hwb:World.setRow _ _ _=wb
     have hbb:Below w3.heap.size w3 wb:=by rw[←hwb];exact below_setRow (below_alloc _ _) (Nat.le_refl _) _
     have hYb:Box1 wb w3.heap.size 27 (condA (cvF x) m):=by rw[←hwb];exact setRow_heap _ _ _ _ _ _ (heap_alloc_new w3 _)
     have hS3:=(HS.out.keep hb3).keep hbb
     have hr4:=hr3.keep hbb
     have hlo:∀ r,(Value.slice A k c).ownBlock=some r→r<wr.heap.size:=fun r hr=>(HS.out.own.lt r hr).2
     have hya:∀ r,(Value.slice A k c).ownBlock=some r→ApartC r (cvF x) m:=fun r hr=>ApartC.of_fresh hf3 (hlo r hr)
     have hfr:FreshC (w.heap.size+3) (cvF x) m:=⟨fun h a e=>Nat.le_trans HS.out.sz (hf3.cl h a e),fun h a e=>Nat.le_trans HS.out.sz (hf3.co h a e),fun h a e=>Nat.le_trans HS.out.sz (hf3.si h a e)⟩
     have HS3:=Lib.hid hS3;have HR4:=Lib.hid hr4;have HYA:=Lib.hid hya;have HFR:=Lib.hid hfr;have HYB:=Lib.hid hYb
     have c3:=hS3.row3
     clear hwb hbb hS3 hr4 hya hfr hYb hr3 hf3 hb3 hlo HCX HS
     go_upto_region 12 with (go_at_call 76;refine (must_yes _).mono ?_;rintro e w4 ⟨rfl,hmw⟩;subst hmw)
     have hldc:=cond_row HYB.out rfl
     have hsz3:=HS3.out.sz
     have hbs:=fun W=>run_bsC (cvF x) m W
     have hone:∀ u∈(condA (cvF x) m).toList,u.oneCell'=true:=by
      intro u hu
      have:=condA_one (cvF x) m
      rw[Array.all_eq_true']at this
      exact this u (by simpa using hu)
     have hlen:(condA (cvF x) m).toList.length=1*7:=rfl
     have hcells:(condA (cvF x) m).toList=(⟨cvF x,m⟩:CoM).cells:=rfl
     clear HYB
     generalize condA (cvF x) m=Yi at *
     have HLDC:=Lib.hid hldc;have HSZ3:=Lib.hid hsz3;have HBS:=Lib.hid hbs;have HONE:=Lib.hid hone;have HLEN:=Lib.hid hlen;have HCEL:=Lib.hid hcells
     clear hldc hsz3 hbs hone hlen hcells
     go_wp2_with (first
      | (refine wpList_load_addr rfl 27 _ rfl ⟨w3.heap.size,0,none⟩ (.agg Yi) rfl HLDC.out ?_)
      | (refine wpList_buildSlice_as rfl 28 1 _ rfl #[(0,.agg Yi)] (by kernel_rfl) _ _ (HBS.out _) ?_)
      | (at_builtin;refine wpList_append_lies _ rfl _ _ 28 rfl (w.heap.size+3) 27 ii (.agg #[.int .i64 0,.int .i64 0,.string ⟨#[]⟩,.slice none 0 0,.slice none 0 0,.slice none 0 0,.int .i64 0]) 7 112 Tryz.underlying28 HI.out.1 HI.out.2.1 HI.out.2.2.1 HI.out.2.2.2 rfl (by decide) (.slice A k c) k (L.flatMap CoM.cells) rfl (HS3.out.keep (below_alloc _ _)).own ⟨w4.heap.size,0,none⟩ 1 1 Yi.toList rfl HLEN.out (World.news_of_block (heap_alloc_new w4 _)) HONE.out (by omega) (by unfold maxLen;omega) (by omega) (by have:=HSZ3.out;simp;omega) _ rfl ?_;intro g' cap' w6 hown6 hgrow6 hgg6 hlt6;have hT6:Box1 w6 w.heap.size 32 (tokCells N0 N1 x2 A k c zeroS).toArray:=(hgrow6.block _ (by have:=HSZ3.out;simp;omega) (fun e=>by have:=(HS3.out.own.lt _ e.symm).1;omega)).trans (HS3.out.keep (below_alloc _ _)).p.t;have c6:=hT6.cell (k:=3) (v:=.slice A k c) rfl;have f6:=frozen_of_row _ _ 3 _ _ hT6))
     rw[HCEL.out]at hown6
     refine⟨⟨k+1,L++[⟨cvF x,m⟩],some ⟨g',0,none⟩,cap',⟨by go_num,by omega⟩,Lib.hid ?_⟩,by simp[intOf];omega⟩
     have hS5:PcS w F n N0 N1 x2 zeroS k L A c (w4.alloc (.cells Yi 27)):=HS3.out.keep (below_alloc _ _)
     exact hS5.grown (y:=⟨cvF x,m⟩) (by omega) HXX.out HOK.out rfl (HR4.out.keep (below_alloc _ _)) HFR.out HYA.out hown6 hgrow6 hgg6
   ·obtain rfl:k=n-4:=by omega
    have hzc:=HS.out.field HZ.out (by omega)
    have j1:(0:Int)≤(n:Int)-1:=by omega
    have j2:(n:Int)-1<(n:Int):=by omega
    have j3:n-1<n:=by omega
    by_cases hz32:z.size=32
    rotate_left
    ·have HR:=Lib.hid <| HDIE.out (if_neg (by
      intro h
      simp only[Bool.and_eq_true]at h
      exact hz32 ((okF_iff HN.out.symm hn5.1 hn5.2 HZ.out).1 h.1.1.1).2.1))
     have d1:((z.size:Int)==32)=false:=by simp;omega
     clear HDIE HGO
     go_wp2_with (go_at_call 76;refine (must_no _).mono ?_;rintro e w4 ⟨rfl,hmw⟩;subst hmw)
     rw[HR.out]
     exact parse_dies HS.out.p (HS.out.size rfl) rfl rfl
    have d1:((z.size:Int)==32)=true:=by simp;omega
    obtain⟨l,hl⟩:∃ l,l=z.data.toList:=⟨_,rfl⟩
    have hll:l.length=2*16:=by rw[hl,←Lib.size_eq];omega
    have HLZ:=Lib.hid hl;have HLL:=Lib.hid hll
    clear hl hll
    go_upto_region 16 with (go_at_call 76;refine (must_yes _).mono ?_;rintro e w4 ⟨rfl,hmw⟩;subst hmw)
    have HS0:Hid (PcS w F n N0 N1 x2 (sealI l 0) (n-4) L A c _):=HS
    clear HS hzc
    go_wp2
    go_loopw [76] (fun vi wr=>∃ i:Nat,(vi=.int .i64 i∧i≤16)∧Hid (PcS w F n N0 N1 x2 (sealI l i) (n-4) L A c wr)∧Hid (∀ j,j<i→uhOk l j)) (fun vi _=>16-(intOf vi).toNat)
    case atStart=>exact⟨0,⟨rfl,Nat.zero_le _⟩,HS0,Lib.hid (fun j h=>by omega)⟩
    case round =>
     obtain⟨i,⟨rfl,hi⟩,HSi,HOKS⟩:=hrel
     clear HS0
     by_cases hil:i<16
     ·have hk0:(0:Int)≤(i:Int):=by omega
      have hk1:(i:Int)<16:=by omega
      have hiA:=fun W=>run_idxA W z i hz32 hil
      have hiB:=fun W=>run_idxB W z i hz32 hil
      rw[←HLZ.out]at hiA hiB
      have HIA:=Lib.hid hiA;have HIB:=Lib.hid hiB
      clear hiA hiB
      go_upto_region 19 with fail
      refine wp_detD 13 (by kernel_rfl) (by kernel_rfl) (by kernel_rfl) (DL [IsV (.string z),IsV (.int .i64 i),IsV (.int .i64 (2*(i:Int))),IsV (.int .u8 ((uhA l i).toNat:Int)),IsV (.int .i64 (digV (uhA l i))),IsV (.string z),IsV (.int .i64 i),IsV (.int .i64 (2*(i:Int))),IsV (.int .i64 (2*(i:Int)+1)),IsV (.int .u8 ((uhB l i).toNat:Int)),IsV (.int .i64 (digV (uhB l i))),IsV (.int .i64 (digV (uhA l i))),IsV (.int .i64 (digV (uhB l i)))]) (DL.keep _ (by simp only[KeepAll];repeat' (first | apply And.intro | exact keeps_is _ | exact trivial))) (PcS w F n N0 N1 x2 (sealI l i) (n-4) L A c) (HSi.out.keep (Below.drew (Below.refl _ _))) (fun _ _ h hb=>h.keep hb) ?_ ?_
      ·dsimp only[List.take_succ_cons,List.take_zero,DetD]
       refine⟨fun vals W hS hd=>?_,fun vals W hS hd=>?_,fun vals W hS hd=>?_,fun vals W hS hd=>?_,fun vals W hS hd=>?_,fun vals W hS hd=>?_,fun vals W hS hd=>?_,fun vals W hS hd=>?_,fun vals W hS hd=>?_,fun vals W hS hd=>?_,fun vals W hS hd=>?_,fun vals W hS hd=>?_,fun vals W hS hd=>?_,trivial⟩
       all_goals
        (try simp only[DepsL,DL,IsV,List.getD_cons_zero,List.getD_cons_succ,Region.binds,and_true,true_and]at hd)
        simp only[putL,putF,Act.put]
        (try simp only[hd])
        (try obtain⟨hd1,hd2⟩:=hd)
        (try simp only[hd1,hd2])
        (try clear hd)
        (try clear hd1 hd2)
        have hia:=HIA.out W
        have hib:=HIB.out W
        go_wp2_with (first | (go_at_call 79;refine (idxByte_hex _ _).mono ?_;rintro e w5 ⟨rfl,hw5⟩;subst hw5))
        exact⟨rfl,rfl,rfl,by first | exact Below.refl _ _ | assumption⟩
      intro vals wz hSz hDz
      have e11:vals 11=.int .i64 (digV (uhA l i)):=hDz 11 (by omega)
      have e12:vals 12=.int .i64 (digV (uhB l i)):=hDz 12 (by omega)
      simp only[putL,putF,Act.put]
      simp only[e11,e12]
      clear hDz e11 e12
      have HSZ:=Lib.hid hSz
      clear hSz HSi HIA HIB
      by_cases hok:uhOk l i
      rotate_left
      ·have HR:=Lib.hid <| HDIE.out (if_neg (by
        intro h
        simp only[Bool.and_eq_true]at h
        have h2:=((okF_iff HN.out.symm hn5.1 hn5.2 HZ.out).1 h.1.1.1).2.2
        rw[←HLZ.out,unhex_bad 16 l HLL.out i hil hok]at h2
        cases h2))
       clear HDIE HGO HOKS
       unfold uhOk at hok
       generalize digV (uhA l i)=da at *
       generalize digV (uhB l i)=db at *
       by_cases ha:0≤da
       ·have hb:¬ 0≤db:=fun h=>hok ⟨ha,h⟩
        clear hok
        go_wp2_with (go_at_call 76;refine (must_no _).mono ?_;rintro e w4 ⟨rfl,hmw⟩;subst hmw)
        rw[HR.out]
        exact parse_dies HSZ.out.p (HSZ.out.size (sealI_len _ _ hi)) rfl rfl
       ·clear hok
        go_wp2_with (go_at_call 76;refine (must_no _).mono ?_;rintro e w4 ⟨rfl,hmw⟩;subst hmw)
        rw[HR.out]
        exact parse_dies HSZ.out.p (HSZ.out.size (sealI_len _ _ hi)) rfl rfl
      have HOK2:=Lib.hid (uh_all HOKS.out hok)
      have hput:=HSZ.out.put hil
      have hvA:=digV_val hok.1
      have hvB:=digV_val hok.2
      have hA16:=(digV_ok _).1 hok.1
      have hB16:=(digV_ok _).1 hok.2
      have huv:((uhV l i:Nat):Int)=16*((hexV (uhA l i):Nat):Int)+((hexV (uhB l i):Nat):Int):=by unfold uhV;omega
      rw[huv]at hput
      simp only[hvA,hvB]
      clear hvA hvB huv hok HOKS
      generalize hexV (uhA l i)=a at *
      generalize hexV (uhB l i)=b at *
      have HPUT:=Lib.hid hput
      clear hput
      have ha0:(0:Int)≤(a:Int):=by omega
      have hb0:(0:Int)≤(b:Int):=by omega
      have ha1:(a:Int)≤15:=by omega
      have hb1:(b:Int)≤15:=by omega
      go_upto_region 21 with (go_at_call 76;refine (must_yes _).mono ?_;rintro e w4 ⟨rfl,hmw⟩;subst hmw)
      obtain⟨v4,hc4⟩:=HSZ.out.byte (sealI_len _ _ hi) hil
      have hf4:=HSZ.out.free (4+i)
      go_wp2
      exact⟨⟨i+1,⟨by go_num,by omega⟩,HPUT,HOK2⟩,by simp[intOf];omega⟩
     ·obtain rfl:i=16:=by omega
      have hun:=unhex_good 16 l HLL.out HOKS.out
      have hsok:=uhN_ok HOKS.out
      have hse:=sealI_end l
      have hfit:=HSi.out.fits HFS.out
      have hx2:x2.size≤100000:=by
       rw[←HG2.out,List.getD_eq_getElem?_getD,List.getElem?_eq_getElem (by have:=HN.out;omega)]
       exact HFS.out _ (List.getElem_mem _)
      rw[hse]at HSi
      generalize uhN l 16=sl at *
      obtain⟨htr,hce,hcn⟩:=HSi.out.tok hsok
      have hte:=tokF_eq HN.out.symm hn5.1 HZ.out HG0.out HG1.out HG2.out (by rw[←HLZ.out];exact hun)
      rw[HN0.out,HN1.out]at hte
      have hokF:okF readC F=true:=(okF_iff HN.out.symm hn5.1 hn5.2 HZ.out).2 ⟨HSi.out.ok,hz32,by rw[←HLZ.out,hun];rfl⟩
      obtain⟨T,hT⟩:∃ T:TokV,T=⟨N0,N1,x2,((midF F).take (n-4)).map cvF,sl⟩:=⟨_,rfl⟩
      rw[←hT]at htr hce hte
      have hTn:T.conds.length=n-4:=by rw[hT];exact hcn
      have hTi:T.id=x2:=by rw[hT]
      have hv:=fun (W:World) (hb:Below wr.heap.size wr W)=>tValid_any ⟨T,A,c,L⟩ W (htr.keep hb) hfit (by show T.id.size≤_;rw[hTi];omega) (by show T.conds.length≤_;omega) (HE.out.keep (bstep HSi.out.p.b hb))
      unfold TokM.val at hv
      rw[hce]at hv
      have hXS:(tokCells N0 N1 x2 A (n-4) c sl).toArray.size=20:=HSi.out.size hsok.len
      have hXO:(tokCells N0 N1 x2 A (n-4) c sl).toArray.all (·.oneCell')=true:=tok_one _ _ _ _ _ _ _
      have hld:=tok_row HSi.out.p.t hXS
      have HXS:=Lib.hid hXS;have HXO:=Lib.hid hXO;have HLD:=Lib.hid hld;have HV:=Lib.hid hv
      have HTE:=Lib.hid hte;have HOF:=Lib.hid hokF;have HHT:=Lib.hid hT;have HFI:=Lib.hid HSi.out.fin;have HTR:=Lib.hid htr;have HCE:=Lib.hid hce;have HSO:=Lib.hid hsok;have HTN:=Lib.hid hTn
      clear hXS hXO hld hv hte hokF hT htr hce hcn hfit hx2 hTi hse hun hsok hTn HOKS
      cases hvt:validT T
      ·have HR:=Lib.hid <| HDIE.out (if_neg (by
        intro h
        simp only[Bool.and_eq_true]at h
        have:=h.2
        rw[HTE.out,hvt]at this
        cases this))
       rw[hvt]at HV
       clear HDIE HGO hvt
       go_wp2_with (first
        | (refine wpList_load_addr rfl 32 _ rfl ⟨w.heap.size,0,none⟩ (.agg (tokCells N0 N1 x2 A (n-4) c sl).toArray) rfl HLD.out ?_)
        | (go_at_call 14;refine (HV.out _ (Below.refl _ _)).mono ?_;rintro e w7 ⟨rfl,hb7⟩)
        | (go_at_call 76;refine (must_no _).mono ?_;rintro e w4 ⟨rfl,hmw⟩;subst hmw))
       rw[HR.out]
       exact parse_dies (HSi.out.keep hb7).p HXS.out rfl rfl
      ·have HR:=Lib.hid <| HGO.out T (by
        rw[if_pos (by rw[HOF.out,HG0.out,HG1.out,HTE.out,hvt,HNUM.out.1,HNUM.out.2];rfl),HTE.out])
       rw[hvt]at HV
       clear HDIE HGO hvt
       go_upto_region 24 with (first
        | (refine wpList_load_addr rfl 32 _ rfl ⟨w.heap.size,0,none⟩ (.agg (tokCells N0 N1 x2 A (n-4) c sl).toArray) rfl HLD.out ?_)
        | (go_at_call 14;refine (HV.out _ (Below.refl _ _)).mono ?_;rintro e w7 ⟨rfl,hb7⟩)
        | (go_at_call 76;refine (must_yes _).mono ?_;rintro e w4 ⟨rfl,hmw⟩;subst hmw))
       have hS7:=HSi.out.keep hb7
       have h9:=hS7.fin.tok HSO.out
       rw[←HHT.out]at h9
       have HS7:=Lib.hid hS7;have HS8:=Lib.hid hS7.fin;have H9:=Lib.hid h9
       have hld7:=tok_row hS7.p.t HXS.out
       obtain⟨c8,f8⟩:=hS7.err
       clear hS7 h9 HSi HLD HV hb7
       go_wp2_with (first
        | (refine wpList_load_addr rfl 32 _ rfl ⟨w.heap.size,0,none⟩ (.agg (tokCells N0 N1 x2 A (n-4) c sl).toArray) rfl hld7 ?_)
        | (refine wpList_store_row rfl 32 _ _ rfl w.heap.size (tokCells N0 N1 x2 A (n-4) c sl).toArray rfl rfl _ (tokCells N0 N1 x2 A (n-4) c sl).toArray HS7.out.p.t (by rw[HXS.out];exact infTok) rfl HXO.out ?_))
       rw[HR.out]
       exact parse_ret (x:=⟨T,A,c,L⟩) (by rw[H9.out.2.1];exact HS8.out.p) H9.out.1 rfl rfl
structure LawE (w:World):Prop where
 e:Env w
 t:Tab w
 k:Ks w
 x:Errs w
 h:5<w.heap.size
theorem LawE.keep {w W:World} (h:LawE w) (hb:Below w.heap.size w W):LawE W:=⟨h.e.keep hb,h.t.keep hb,h.k.keep hb,h.x.keep hb,Nat.lt_of_lt_of_le h.h hb.size⟩
def noM:CondMem:=⟨none,0,none,0,none,0⟩
theorem noM_reads (W:World) (a b:Int) (p:ByteArray) (u:Int):CondReads W ⟨a,b,p,[],[],[],u⟩ noM:=⟨Reads.nil_ _ _ _,Reads.nil_ _ _ _,Reads.nil_ _ _ _⟩
theorem sn_fits (a b:Int) (p:ByteArray) (u:Int) (h:p.size≤100000):CondFits ⟨a,b,p,[],[],[],u⟩:=⟨h,fun x hx=>by (cases hx),fun x hx=>by (cases hx),Nat.zero_le _,Nat.zero_le _,Nat.zero_le _⟩
theorem tx_a:(textC aS).size≤1000000:=of_decide_eq_true (by kernel_rfl)
theorem tx_b:(textC bS).size≤1000000:=of_decide_eq_true (by kernel_rfl)
theorem ok_a:CoOk aS:=⟨sn_fits _ _ _ _ (by decide),sn_a,tx_a⟩
theorem ok_b:CoOk bS:=⟨sn_fits _ _ _ _ (by decide),sn_b,tx_b⟩
theorem in_conds {w:World} {y:TokM} (hR:TokReads w y) {p:CondV→Prop} (h:∀ c∈y.t.conds,p c):∀ z∈y.L,p z.c:=fun z hz=>h z.c (by rw[←hR.same];exact List.mem_map_of_mem hz)
theorem ok_t {c:CondV} (h:c∈tS.conds):CoOk c:=by
 rw[List.mem_singleton.1 (show c∈[aS] from h)];exact ok_a
theorem ok_n {c:CondV} (h:c∈nS.conds):CoOk c:=by
 rcases List.mem_cons.1 (show c∈[aS,bS] from h) with rfl | h
 ·exact ok_a
 ·rw[List.mem_singleton.1 h];exact ok_b
theorem st_mint {W:World} (h:LawE W):Calls Tryz.prog 12 #[.agg (#[.int .i64 9,.int .i64 1,.string (⟨#[107]⟩:ByteArray),.int .i64 0,.int .i64 1000]:Array Value),.string (⟨#[102,105,108,109]⟩:ByteArray),.agg (#[.int .i64 0,.int .i64 100,.string (⟨#[97,99,109,101,47,42,42]⟩:ByteArray),.slice none 0 0,.slice none 0 0,.slice none 0 0,.int .i64 0]:Array Value)] W (TokPost tS 0 W):=by
 have:=mint_any kS (⟨#[102,105,108,109]⟩:ByteArray) aS noM W (noM_reads W _ _ _ _) ok_a.fits (fun _=>tx_a) (by decide) (by decide) h.k h.e h.t
 rw[mint_S]at this
 exact this
theorem st_narrow {W:World} (h:LawE W) {y:TokM} (hR:TokReads W y) (hy:y.t=tS):Calls Tryz.prog 17 #[y.val,.agg (#[.int .i64 10,.int .i64 50,.string ⟨#[]⟩,.slice none 0 0,.slice none 0 0,.slice none 0 0,.int .i64 0]:Array Value)] W (TokPost nS 0 W):=by
 have:=narrow_any y bS noM W hR (noM_reads W _ _ _ _) ok_b.fits (fun _=>tx_b) (by rw[hy];decide) (by rw[hy];decide) h.k h.e h.t
 rw[hy,narrow_S]at this
 exact this
theorem st_valid {W:World} (h:LawE W) {y:TokM} (hR:TokReads W y) (hy:y.t=nS):Calls Tryz.prog 14 #[y.val] W (Ret W (.bool true)):=by
 have:=tValid_any y W hR (in_conds hR (p:=CondFits) (by rw[hy];exact fun c hc=>(ok_n hc).fits)) (by rw[hy];decide) (by rw[hy];decide) h.e
 rw[hy,sn_n]at this
 exact this
theorem st_mean {W:World} (h:LawE W) {y:TokM} (hR:TokReads W y) (hy:y.t=nS):Calls Tryz.prog 19 #[y.val] W (MeanPost mS W):=by
 have:=mean_any y W hR (in_conds hR (p:=fun c=>validC c=true) (by rw[hy];exact fun c hc=>(ok_n hc).ok)) (in_conds hR (p:=CondFits) (by rw[hy];exact fun c hc=>(ok_n hc).fits)) (by rw[hy];decide) (by rw[hy];decide) h.e
 rw[hy,mean_S]at this
 exact this
theorem ring_S:RingOk [kS]:=⟨List.pairwise_singleton _ _,fun k hk=>by rw[List.mem_singleton.1 hk];exact sn_k⟩
theorem ring_in {W:World} {g:Nat} (h:Box1 W g 23 (#[.int .i64 9,.int .i64 1,.string (⟨#[107]⟩:ByteArray),.int .i64 0,.int .i64 1000]:Array Value)):KeysRead W (some ⟨g,0,none⟩) 1 [kS]:=by
 refine⟨rfl,rfl,fun _=>⟨g,0,rfl,fun j u hu=>?_⟩⟩
 have:=h.cell (k:=j) (v:=u) (by
  have e:([kS].flatMap KeyV.cells)=((#[.int .i64 9,.int .i64 1,.string (⟨#[107]⟩:ByteArray),.int .i64 0,.int .i64 1000]:Array Value)).toList:=rfl
  rw[e,Array.getElem?_toList]at hu
  exact hu)
 rw[Nat.zero_add];exact this
theorem st_check {W:World} (h:LawE W) {y:TokM} (hR:TokReads W y) (hc:∀ c∈y.t.conds,CoOk c) (h1:1≤y.t.conds.length) (h2:y.t.conds.length≤1000) (hid:y.t.id.size≤1000000) (hp:InK y.t.cust) (hs:InK y.t.ser) {g:Nat} (hg:Box1 W g 23 (#[.int .i64 9,.int .i64 1,.string (⟨#[107]⟩:ByteArray),.int .i64 0,.int .i64 1000]:Array Value)) (a:AskV) (ha:AskFits a) {r:Int} (hr:checkT [kS] y.t a=r) :
  Calls Tryz.prog 29 #[.slice (some ⟨g,0,none⟩) 1 1,y.val,.agg (askL a).toArray] W (Ret W (.int .i64 r)):=by
 have:=check25_any (some ⟨g,0,none⟩) 1 1 [kS] y a W (ring_in hg) (by decide) ring_S hR (in_conds hR hc) ha h1 h2 hid hp hs h.k h.e h.t
 rw[hr]at this
 exact this
theorem in1:InK 9∧InK 1:=by unfold InK;omega
theorem ask_fits (a:AskV) (h1:a.addr.size≤100000) (h2:a.client.size≤100000) (h3:a.country.size≤100000):AskFits a:=⟨h1,h2,h3⟩
theorem st_check1 {W:World} (h:LawE W) {y:TokM} (hR:TokReads W y) (hy:y.t=tS) {g:Nat} (hg:Box1 W g 23 (#[.int .i64 9,.int .i64 1,.string (⟨#[107]⟩:ByteArray),.int .i64 0,.int .i64 1000]:Array Value)) (a:AskV) (ha:AskFits a) {r:Int} (hr:checkT [kS] tS a=r):Calls Tryz.prog 29 #[.slice (some ⟨g,0,none⟩) 1 1,y.val,.agg (askL a).toArray] W (Ret W (.int .i64 r)) :=
 st_check h hR (by rw[hy];exact fun c=>ok_t) (by rw[hy];decide) (by rw[hy];decide) (by rw[hy];decide) (by rw[hy];exact in1.1) (by rw[hy];exact in1.2) hg a ha (by rw[hy];exact hr)
theorem st_check2 {W:World} (h:LawE W) {y:TokM} (hR:TokReads W y) (hy:y.t=nS) {g:Nat} (hg:Box1 W g 23 (#[.int .i64 9,.int .i64 1,.string (⟨#[107]⟩:ByteArray),.int .i64 0,.int .i64 1000]:Array Value)) (a:AskV) (ha:AskFits a) {r:Int} (hr:checkT [kS] nS a=r):Calls Tryz.prog 29 #[.slice (some ⟨g,0,none⟩) 1 1,y.val,.agg (askL a).toArray] W (Ret W (.int .i64 r)) :=
 st_check h hR (by rw[hy];exact fun c=>ok_n) (by rw[hy];decide) (by rw[hy];decide) (by rw[hy];decide) (by rw[hy];exact in1.1) (by rw[hy];exact in1.2) hg a ha (by rw[hy];exact hr)
theorem st_check3 {W:World} (h:LawE W) {y:TokM} (hR:TokReads W y) (hy:y.t=cutS) {g:Nat} (hg:Box1 W g 23 (#[.int .i64 9,.int .i64 1,.string (⟨#[107]⟩:ByteArray),.int .i64 0,.int .i64 1000]:Array Value)) (a:AskV) (ha:AskFits a) {r:Int} (hr:checkT [kS] cutS a=r):Calls Tryz.prog 29 #[.slice (some ⟨g,0,none⟩) 1 1,y.val,.agg (askL a).toArray] W (Ret W (.int .i64 r)) :=
 st_check h hR (by rw[hy];exact fun c=>ok_t) (by rw[hy];decide) (by rw[hy];decide) (by rw[hy];decide) (by rw[hy];exact in1.1) (by rw[hy];exact in1.2) hg a ha (by rw[hy];exact hr)
theorem tx_n:(textT nS).size≤1000:=of_decide_eq_true (by kernel_rfl)
theorem st_text25 {W:World} (h:LawE W) {y:TokM} (hR:TokReads W y) (hy:y.t=nS):Calls Tryz.prog 35 #[y.val] W (Ret W (.tuple #[.string (textT nS),.int .i64 0])):=by
 have:=text25_any y W hR (in_conds hR (p:=CondFits) (by rw[hy];exact fun c hc=>(ok_n hc).fits)) (fun _=>in_conds hR (by rw[hy];exact fun c=>ok_n)) (by rw[hy];decide) (by rw[hy];decide) (fun _=>by rw[hy];have:=tx_n;omega) h.e h.t
 rw[hy,sn_n,if_pos rfl,if_pos rfl]at this
 exact this
theorem st_parse {W:World} (h:LawE W):Calls Tryz.prog 37 #[.string (textT nS)] W (TokPost nS 0 W):=by
 have hs:(textT nS).size≤131072:=by have:=tx_n;omega
 have:=parse25_any (textT nS) W hs (fun x hx=>Nat.le_trans (splitB_size 59 (textT nS) x hx) (by have:=tx_n;omega)) h.e h.x h.t h.h
 rw[parseV_some hs back_S]at this
 exact this
theorem st_same21 (m:CondMem) (W:World) (hm:CondReads W mS m):Calls Tryz.prog 21 #[CondMem.val mS m,.agg (#[.int .i64 10,.int .i64 50,.string (⟨#[97,99,109,101,47,42,42]⟩:ByteArray),.slice none 0 0,.slice none 0 0,.slice none 0 0,.int .i64 0]:Array Value)] W (Ret W (.bool true)):=same_cond mS m noM W hm (noM_reads W _ _ _ _) (sn_fits _ _ _ _ (by decide))
theorem st_same25 {W:World} {x y:TokM} (hx:TokReads W x) (hy:TokReads W y) (ex:x.t=nS) (ey:y.t=nS):Calls Tryz.prog 16 #[x.val,y.val] W (Ret W (.bool true)) :=
 rTSame_any x y W hx hy (ey.trans ex.symm) (in_conds hx (p:=CondFits) (by rw[ex];exact fun c hc=>(ok_n hc).fits)) (by rw[ex];decide)
theorem st_ident1 {W:World} (h:LawE W) {y:TokM} (hR:TokReads W y) (hy:y.t=tS):Calls Tryz.prog 22 #[y.val] W (Ret W (.agg (b8 (identT nS)).toArray)):=by
 have:=identity_any y W (by rw[hy];decide) (by rw[hy];decide) (by rw[hy];decide) hR.sl h.k h.t
 rw[hy,ident_S]at this
 exact this
theorem st_ident2 {W:World} (h:LawE W) {y:TokM} (hR:TokReads W y) (hy:y.t=nS):Calls Tryz.prog 22 #[y.val] W (Ret W (.agg (b8 (identT nS)).toArray)):=by
 have:=identity_any y W (by rw[hy];decide) (by rw[hy];decide) (by rw[hy];decide) hR.sl h.k h.t
 rw[hy]at this
 exact this
theorem st_uses {W:World} (h:LawE W) {y:TokM} (hR:TokReads W y) (hy:y.t=nS):Calls Tryz.prog 24 #[y.val] W (Ret W (.int .i64 0)):=by
 have:=uses_any y W hR (in_conds hR (p:=fun c=>validC c=true) (by rw[hy];exact fun c hc=>(ok_n hc).ok)) (in_conds hR (p:=CondFits) (by rw[hy];exact fun c hc=>(ok_n hc).fits)) (by rw[hy];decide) (by rw[hy];decide) h.e
 rw[hy,mean_S]at this
 exact this
end Go.Proofs.YtlkbkclnbppigaaGreatDoor
