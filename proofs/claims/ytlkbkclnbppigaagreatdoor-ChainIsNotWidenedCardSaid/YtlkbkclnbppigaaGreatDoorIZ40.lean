/- chain.Parse. -/
import Derived.Test.YtlkbkclnbppigaaGreatDoorIZ39
set_option maxHeartbeats 32000000
namespace Go.Proofs.YtlkbkclnbppigaaGreatDoor
open Tryz
open Go.RowKit Go.Sort
set_option linter.unusedVariables false
set_option linter.unusedSimpArgs false
set_option maxRecDepth 100000
theorem ZZ(s:aC)(w:World)(hs:s.size<=131072)(hfs:∀ x∈splitB 59 s,x.size<=100000)(hE:Env w)(hX:jP w)(hTb:Tab w)(h5:5<w.heap.size) :
  Calls prog 37 #[.string s] w (jQ (pz s).1 (pz s).2 w):=by
 have hmf:∀(fn:Fn)(first cap:Array Value)(w:World),(Instr.makeFunc fn first cap).run prog w=.ok (.func fn first cap) w:=fun _ _ _ _=>rfl
 obtain⟨R,hRR⟩:∃ R,R=jQ (pz s).1 (pz s).2 w:=⟨_,rfl⟩;rw[<-hRR];have hdie:nU s=none->R=jQ iK 3 w:=fun h=>by rw[hRR,ZE hs h]
 have hgo:∀ t,nU s=some t->R=jQ t 0 w:=fun t h=>by rw[hRR,OD hs h]
 have hsp:=fun W (hb:aF w W)=>Ci s 59 W aB (hE.keep hb)
 have hnl:=qM 59 s;unfold nU at hdie hgo;generalize splitB 59 s=F at *;have HDIE:=aA hdie;have HGO:=aA hgo;have HSP:=aA hsp;have HE:=aA hE;have HX:=aA hX;have HTB:=aA hTb;have HFS:=aA hfs;clear hdie hgo hsp hE hX hTb hfs hRR;obtain⟨n,hn⟩:∃ n,n=F.length:=⟨_,rfl⟩;rw[<-hn]at HSP hnl;have HN:=aA hn;clear hn;have i1:¬ (131072:Int)<(s.size:Int):=aB;refine calls_of_wp_defers func37 rfl ?_;simp only[ntmps37,List.size_toArray,List.length_cons,List.length_nil,Nat.reduceAdd,Nat.reduceSub,Array.replicate_succ,Array.replicate_zero,List.push_toArray,List.append_toArray,List.nil_append,List.cons_append];go_upto_region 1 with fail
 generalize hw0:World.alloc _ _=w0;have hP0:PaS w bf 0 w0:=by rw[<-hw0];exact⟨(gQ w _ _).1,(gQ w _ _).2,aJ⟩
 have hz0:w0.heap.size=w.heap.size+2:=vX;clear hw0;go_upto_region 5 with (go_at_call 75;refine (HSP.out w0 hP0.b).mono ?_;rintro e w1 ⟨rfl,hR1,hb1⟩)
 have hP1:=hP0.keep hb1 aB;rw[hz0]at hR1;have HP1:=aA hP1;have HR1:=aA hR1;clear hz0 hb1 hP1 hR1 hP0 HSP i1;by_cases hn5:5<=n/\n<=20;rotate_left
 ·have HR:=aA <| HDIE.out (if_neg (by
   intro h;simp only[Bool.and_eq_true]at h;have:=h.1.1.1;unfold okF at this;simp only[Bool.and_eq_true,decide_eq_true_eq]at this;have:=this.1.1.1;rw[<-HN.out]at this;exact hn5 this))
  clear HDIE HGO;by_cases h5n:5<=n
  ·have i2:¬ (n:Int)<=20:=aB;have i3:(5:Int)<=(n:Int):=aB;exact OW
  ·have i3:¬ (5:Int)<=(n:Int):=aB;exact OW
 have i2:(n:Int)<=20:=aB;have i3:(5:Int)<=(n:Int):=aB;go_upto_region 6 with (go_at_call 76;refine (tV _).mono ?_;rintro e w4 ⟨rfl,hmw⟩;subst hmw)
 have hcl:∀(k:Nat),k<n->∃ x,F[k]? = some x/\∀ W,(PaS w bf 0 W/\aI W 1 (some ⟨w.heap.size+2,0,none⟩) n (F.map .string))->W.cell? ⟨w.heap.size+2,k,none⟩=some (.string x):=fun k hk=>by
  obtain⟨x,hx⟩:∃ x,F[k]? = some x:=⟨_,List.getElem?_eq_getElem (by rw[<-HN.out];exact hk)⟩;refine⟨x,hx,fun W hW=>?_⟩;obtain⟨b,o,e,hc⟩:=hW.2.2 aB;injection e with e
  injection e with e1 e2
  subst e1;subst e2;have:=hc k (.string x) (by rw[List.getElem?_map,hx];rfl)
  rwa [Nat.zero_add]at this
 obtain⟨x0,hx0,hc0⟩:=hcl 0 aB;obtain⟨x1,hx1,hc1⟩:=hcl 1 aB;obtain⟨x2,hx2,hc2⟩:=hcl 2 aB;have g0:F.getD 0 aT=x0:=by rw[List.getD_eq_getElem?_getD,hx0];rfl
 have g1:F.getD 1 aT=x1:=by rw[List.getD_eq_getElem?_getD,hx1];rfl
 have g2:F.getD 2 aT=x2:=by rw[List.getD_eq_getElem?_getD,hx2];rfl
 have z0:=HFS.out x0 (List.mem_of_getElem? hx0);have z1:=HFS.out x1 (List.mem_of_getElem? hx1);have HX0:=aA hc0;have HX1:=aA hc1;have HX2:=aA hc2;have HG0:=aA g0;have HG1:=aA g1;have HG2:=aA g2;clear hcl hc0 hc1 hc2 hx0 hx1 hx2 g0 g1 g2;have i0:(0:Int)<(n:Int):=aB;have i4:(1:Int)<(n:Int):=aB;have i5:(2:Int)<(n:Int):=aB;have i6:0<n:=aB;have i7:1<n:=aB;have i8:2<n:=aB;by_cases hnum:ik x0=true/\ik x1=true;rotate_left
 ·have HR:=aA <| HDIE.out (if_neg (by
   intro h;simp only[Bool.and_eq_true]at h;rw[HG0.out,HG1.out]at h;exact hnum ⟨h.1.1.2,h.1.2⟩))
  refine Code.wp_mono (Q:=jD w) (fun e a W h=>?imp) ?_
  case imp =>
   cases e with
   | panic c=>exact jD.dies HR.out h
   | _=>exact h.elim
  clear HR;refine wp_region_held_drew (S:=fun W=>PaS w bf 0 W/\aI W 1 (some ⟨w.heap.size+2,0,none⟩) n (F.map .string)) aG ⟨HP1.out.keep (B:=w.heap.size+2) (Below.drew (Below.refl _ _)) (Nat.le_refl _),HR1.out.keep (Below.drew (Below.refl _ _))⟩ (fun hS=>?_);refine wpAnyH_take (i:=0) (v:=(.slice (some ⟨w.heap.size+2,0,none⟩) n n)) rfl aG aG aG (fun _ _ _ h=>jD.put (d:=29) aK aK h) (Or.inl ⟨bC,?tk0⟩) hS ?_
  case tk0=>(intro W hSW;go_simp;try with_reducible rfl)
  (try simp only[Act.put,ag]);refine wpAnyH_take (i:=1) (v:=(.pointer (some ⟨w.heap.size+2,0,none⟩))) rfl aG aG aG (fun _ _ _ h=>jD.put (d:=30) aK aK h) (Or.inl ⟨bC,?tk1⟩) hS ?_
  case tk1=>(intro W hSW;go_simp;try with_reducible rfl)
  (try simp only[Act.put,ag]);refine wpAnyH_take (i:=2) (v:=(.string x0)) rfl aG aG aG (fun _ _ _ h=>jD.put (d:=31) aK aK h) (Or.inl ⟨bC,?tk2⟩) hS ?_
  case tk2=>(intro W hSW;have hc:=HX0.out W hSW;go_simp;try with_reducible rfl)
  (try simp only[Act.put,ag]);refine wpAnyH_take (i:=4) (v:=(.slice (some ⟨w.heap.size+2,0,none⟩) n n)) rfl aG aG aG (fun _ _ _ h=>jD.put (d:=33) aK aK h) (Or.inl ⟨bC,?tk4⟩) hS ?_
  case tk4=>(intro W hSW;go_simp;try with_reducible rfl)
  (try simp only[Act.put,ag]);refine wpAnyH_take (i:=5) (v:=(.pointer (some ⟨w.heap.size+2,1,none⟩))) rfl aG aG aG (fun _ _ _ h=>jD.put (d:=34) aK aK h) (Or.inl ⟨bC,?tk5⟩) hS ?_
  case tk5=>(intro W hSW;go_simp;try with_reducible rfl)
  (try simp only[Act.put,ag]);refine wpAnyH_take (i:=6) (v:=(.string x1)) rfl aG aG aG (fun _ _ _ h=>jD.put (d:=35) aK aK h) (Or.inl ⟨bC,?tk6⟩) hS ?_
  case tk6=>(intro W hSW;have hc:=HX1.out W hSW;go_simp;try with_reducible rfl)
  (try simp only[Act.put,ag]);refine wpAnyH_take (i:=8) (v:=(.slice (some ⟨w.heap.size+2,0,none⟩) n n)) rfl aG aG aG (fun _ _ _ h=>jD.put (d:=37) aK aK h) (Or.inl ⟨bC,?tk8⟩) hS ?_
  case tk8=>(intro W hSW;go_simp;try with_reducible rfl)
  (try simp only[Act.put,ag]);refine wpAnyH_take (i:=9) (v:=(.pointer (some ⟨w.heap.size+2,2,none⟩))) rfl aG aG aG (fun _ _ _ h=>jD.put (d:=38) aK aK h) (Or.inl ⟨bC,?tk9⟩) hS ?_
  case tk9=>(intro W hSW;go_simp;try with_reducible rfl)
  (try simp only[Act.put,ag]);refine wpAnyH_take (i:=10) (v:=(.string x2)) rfl aG aG aG (fun _ _ _ h=>jD.put (d:=39) aK aK h) (Or.inl ⟨bC,?tk10⟩) hS ?_
  case tk10=>(intro W hSW;have hc:=HX2.out W hSW;go_simp;try with_reducible rfl)
  (try simp only[Act.put,ag]);have hlo:w.heap.size+2<(World.drew _).heap.size:=qx aK hS.2 aB _ rfl;by_cases hnu:ik x0=true;rotate_left
  ·have hnf:ik x0=false:=by simpa using hnu
   have hno:=OB x0 _ aB (HX.out.keep hS.1.b) (HTB.out.keep hS.1.b) hnf;refine wpAnyH_ready (rs:=[3]) aG aH ?_;refine AllReadyH.cons (o:=_) rfl (fun K hK=>?_) AllReadyH.nil;go_simp;go_at_call 77;refine hno.mono ?_;rintro e w5 ⟨rfl,hb5⟩;exact⟨rfl,rfl,rfl,rfl,hS.1.keep hb5 aB⟩
  have hnf:ik x1=false:=by
   cases h:ik x1 with
   | false=>rfl
   | true=>exact absurd ⟨hnu,h⟩ hnum
  have hyes:=Di x0 _ aB (HX.out.keep hS.1.b) (HTB.out.keep hS.1.b) hnu;refine wpAnyH_ready (rs:=[3]) aG aH ?_;refine AllReadyH.cons (o:=_) rfl (fun K hK=>?_) AllReadyH.nil;go_simp;go_at_call 77;refine hyes.mono ?_;rintro e w5 ⟨rfl,hb5⟩;have hS5:PaS w bf 0 w5/\aI w5 1 (some ⟨w.heap.size+2,0,none⟩) n (F.map .string):=⟨hS.1.keep hb5 aB,hS.2.keep hb5⟩;go_simp;refine hK.out _ _ hS5 (fun _=>?_);clear hK;(try simp only[Act.put,ag]);have hlo5:w.heap.size+2<w5.heap.size:=qx aK hS5.2 aB _ rfl;have hno:=OB x1 w5 aB (HX.out.keep hS5.1.b) (HTB.out.keep hS5.1.b) hnf;refine wpAnyH_ready (rs:=[7]) aG aH ?_;refine AllReadyH.cons (o:=_) rfl (fun K hK=>?_) AllReadyH.nil;go_simp;go_at_call 77;refine hno.mono ?_;rintro e w6 ⟨rfl,hb6⟩;exact⟨rfl,rfl,rfl,rfl,hS5.1.keep hb6 aB⟩
 have hnu0:=fun (W:World) (hb:aF w W)=>Di x0 W aB (HX.out.keep hb) (HTB.out.keep hb) hnum.1
 have hnu1:=fun (W:World) (hb:aF w W)=>Di x1 W aB (HX.out.keep hb) (HTB.out.keep hb) hnum.2
 have HNU0:=aA hnu0;have HNU1:=aA hnu1;have HNUM:=aA hnum;clear hnu0 hnu1 hnum;generalize hN0:af x0=N0 at *;generalize hN1:af x1=N1 at *;have HN0:=aA hN0;have HN1:=aA hN1;clear hN0 hN1;refine qm 12 aG aG aG (DL [IsV (.slice (some ⟨w.heap.size+2,0,none⟩) n n),IsV (.pointer (some ⟨w.heap.size+2,0,none⟩)),IsV (.string x0),IsV (.int .i64 N0),IsV (.slice (some ⟨w.heap.size+2,0,none⟩) n n),IsV (.pointer (some ⟨w.heap.size+2,1,none⟩)),IsV (.string x1),IsV (.int .i64 N1),IsV (.slice (some ⟨w.heap.size+2,0,none⟩) n n),IsV (.pointer (some ⟨w.heap.size+2,2,none⟩)),IsV (.string x2),IsV (.agg #[.int .i64 N0,.int .i64 N1,.string x2,.slice none 0 0,.int .u8 0,.int .u8 0,.int .u8 0,.int .u8 0,.int .u8 0,.int .u8 0,.int .u8 0,.int .u8 0,.int .u8 0,.int .u8 0,.int .u8 0,.int .u8 0,.int .u8 0,.int .u8 0,.int .u8 0,.int .u8 0])]) (DL.keep _ Dc) (fun W=>PaS w bf 0 W/\aI W 1 (some ⟨w.heap.size+2,0,none⟩) n (F.map .string)) ?s0 (fun W W' h hb=>⟨h.1.keep hb (by have:=h.2;have h2:=qx aK h.2 aB _ rfl;dsimp only at h2;omega),h.2.keep hb⟩) ?_ ?_
 case s0=>exact⟨HP1.out.keep (B:=w.heap.size+2) (Below.drew (Below.refl _ _)) (Nat.le_refl _),HR1.out.keep (Below.drew (Below.refl _ _))⟩
 ·dsimp only[List.take_succ_cons,List.take_zero,mf];refine⟨fun vals W hS hd=>?_,fun vals W hS hd=>?_,fun vals W hS hd=>?_,fun vals W hS hd=>?_,fun vals W hS hd=>?_,fun vals W hS hd=>?_,fun vals W hS hd=>?_,fun vals W hS hd=>?_,fun vals W hS hd=>?_,fun vals W hS hd=>?_,fun vals W hS hd=>?_,fun vals W hS hd=>?_,trivial⟩
  ·exact jh
  ·exact jh
  ·(try simp only[bQ,DL,IsV,bV,Region.binds,and_true,true_and]at hd);simp only[aZ,bH,Act.put];(try simp only[hd]);clear hd;have hc:=HX0.out W hS;go_wp2;exact⟨rfl,rfl,rfl,aJ⟩
  ·(try simp only[bQ,DL,IsV,bV,Region.binds,and_true,true_and]at hd);simp only[aZ,bH,Act.put];(try simp only[hd]);clear hd;have hbW:=hS.1.b;go_wp2_with (go_at_call 77;refine (HNU0.out _ hbW).mono ?_;rintro e w5 ⟨rfl,hb5⟩);exact⟨rfl,rfl,rfl,aJ⟩
  ·exact jh
  ·exact jh
  ·(try simp only[bQ,DL,IsV,bV,Region.binds,and_true,true_and]at hd);simp only[aZ,bH,Act.put];(try simp only[hd]);clear hd;have hc:=HX1.out W hS;go_wp2;exact⟨rfl,rfl,rfl,aJ⟩
  ·(try simp only[bQ,DL,IsV,bV,Region.binds,and_true,true_and]at hd);simp only[aZ,bH,Act.put];(try simp only[hd]);clear hd;have hbW:=hS.1.b;go_wp2_with (go_at_call 77;refine (HNU1.out _ hbW).mono ?_;rintro e w5 ⟨rfl,hb5⟩);exact⟨rfl,rfl,rfl,aJ⟩
  ·exact jh
  ·exact jh
  ·(try simp only[bQ,DL,IsV,bV,Region.binds,and_true,true_and]at hd);simp only[aZ,bH,Act.put];(try simp only[hd]);clear hd;have hc:=HX2.out W hS;go_wp2;exact⟨rfl,rfl,rfl,aJ⟩
  ·(try simp only[bQ,DL,IsV,bV,Region.binds,and_true,true_and]at hd);obtain⟨e1,e2,e3⟩:=hd;simp only[aZ,bH,Act.put];(try simp only[e1,e2,e3]);clear e1 e2 e3;go_wp2;exact⟨rfl,rfl,rfl,aJ⟩
 ·intro vals w9 hS9 hD9;have e11:vals 11=.agg #[.int .i64 N0,.int .i64 N1,.string x2,.slice none 0 0,.int .u8 0,.int .u8 0,.int .u8 0,.int .u8 0,.int .u8 0,.int .u8 0,.int .u8 0,.int .u8 0,.int .u8 0,.int .u8 0,.int .u8 0,.int .u8 0,.int .u8 0,.int .u8 0,.int .u8 0,.int .u8 0]:=hD9 11 aB;simp only[aZ,bH,Act.put];simp only[e11,Nat.zero_add,Nat.reduceAdd];clear hD9 e11;have hlo9:w.heap.size+2<w9.heap.size:=qx aK hS9.2 aB _ rfl;have hP9:PcS w F n N0 N1 x2 fH 0 [] none 0 (w9.setRow w.heap.size (bn N0 N1 x2 none 0 0 fH).toArray):=by
   have hother:∀ j,j≠w.heap.size->(w9.setRow w.heap.size (bn N0 N1 x2 none 0 0 fH).toArray).heap[j]? = w9.heap[j]?:=fun j hj=>setRow_other _ _ _ _ hj
   refine⟨⟨setRow_heap _ _ _ _ _ _ hS9.1.t,(hother _ aB).trans hS9.1.e,below_setRow hS9.1.b (Nat.le_refl _) _⟩,qw (g:=w.heap.size) (fun j hj=>hother j hj) hS9.2 (fun _ a e=>zD),World.ownsRow_nil _ _ _ _,fun y hy=>by (cases hy),fun y hy=>by (cases hy),fun y hy=>by (cases hy),rfl,rfl,fun y hy=>by (cases hy),?_⟩;rw[size_setRow];omega
  have HP9:=aA hP9;have HT9:=aA hS9.1.t;have hone:(bn N0 N1 x2 none 0 0 fH).toArray.all (·.oneCell')=true:=mi N0 N1 x2 none 0 0 fH;have HON:=aA hone;clear hP9 hS9 hlo9 hone HP1 HR1 HX0 HX1 HX2 HNU0 HNU1;go_upto_region 7 with (refine wpList_store_row rfl 32 _ _ rfl w.heap.size (bn N0 N1 x2 none 0 0 fH).toArray rfl rfl _ bf HT9.out lC rfl HON.out ?_)
  clear HT9 HON;generalize World.setRow _ _ _=wa at *;have i9:((n:Int)-1)<=n:=aB;have i10:(3:Int)<=(n:Int)-1:=aB;obtain⟨z,hz⟩:∃ z,F[n-1]? = some z:=⟨_,List.getElem?_eq_getElem o6⟩;have HZ:=aA hz;clear hz;have hcp:=fun (x:aC) (hx:x∈F) (W:World) (hb:aF w W)=>YD x W (HFS.out x hx) (HE.out.keep hb) (HX.out.keep hb) (HTB.out.keep hb) (Nat.lt_of_lt_of_le h5 hb.size)
  have HCP:=aA hcp;obtain⟨ii,hi0,hz0,hz1,hz2⟩:=info_parts DT;have HI:=aA (And.intro hi0 (And.intro hz0 (And.intro hz1 hz2)));clear hi0 hz0 hz1 hz2 hcp;go_wp2;go_loopw [47] (fun vi wr=>∃(k:Nat)(L:List CoM)(A:Option Addr)(c:Nat),(vi=.int .i64 k/\k<=n-4)/\Hid (PcS w F n N0 N1 x2 fH k L A c wr)) (fun vi _=>n-(intOf vi).toNat)
  case atStart=>exact⟨0,[],none,0,⟨rfl,Nat.zero_le _⟩,HP9⟩
  case round =>
   obtain⟨k,L,A,c,⟨rfl,hk⟩,HS⟩:=hrel;clear HP9;by_cases hlt:k<n-4
   ·obtain⟨x,hx⟩:∃ x,F[3+k]? = some x:=⟨_,List.getElem?_eq_getElem o6⟩;have hcl:=HS.out.field hx aB;have hk0:(0:Int)<=(k:Int):=aB;have hk1:(k:Int)<((n-1-3:Nat):Int):=aB;have hk2:k<n-1-3:=aB;have hbr:=HS.out.p.b;have hcx:=HCP.out x (List.mem_of_getElem? hx) wr hbr;rw[show (eF x).getD ed=cvF x from rfl]at hcx;unfold DU at hcx;simp only[oJ]at hcx;have HXX:=aA hx;cases hok:(eF x).isSome
    ·have HR:=aA <| HDIE.out (if_neg (by
      intro h;simp only[Bool.and_eq_true]at h;exact ZJ hx hlt hok ((zC HN.out.symm hn5.1 hn5.2 HZ.out).1 h.1.1.1).1))
     rw[hok,if_neg aK]at hcx;have HCX:=aA hcx;clear hcx hx hok HDIE HGO;go_upto_region 11 with (first
      | (go_at_call 78;refine HCX.out.mono ?_;rintro e w3 ⟨hb3,m,rfl,hr3,hf3⟩)
      | (refine wpList_store_row rfl 27 _ _ rfl w3.heap.size (dS (cvF x) m) rfl rfl _ fU (heap_alloc_new w3 _) lq rfl (lu _ _) ?_))
     (try dsimp only[Act.put]);generalize hwb:World.setRow _ _ _=wb;have hbb:aF w3 wb:=OY;have hS3:=(HS.out.keep hb3).keep hbb;clear hwb;exact OZ
    ·rw[hok,if_pos rfl]at hcx;have HCX:=aA hcx;have HOK:=aA hok;clear hcx hx hok;go_upto_region 11 with (first
      | (go_at_call 78;refine HCX.out.mono ?_;rintro e w3 ⟨hb3,m,rfl,hr3,hf3⟩)
      | (refine wpList_store_row rfl 27 _ _ rfl w3.heap.size (dS (cvF x) m) rfl rfl _ fU (heap_alloc_new w3 _) lq rfl (lu _ _) ?_))
     (try dsimp only[Act.put]);generalize hwb:World.setRow _ _ _=wb;have hbb:aF w3 wb:=OY;have hYb:aQ wb w3.heap.size 27 (dS (cvF x) m):=by rw[<-hwb];exact setRow_heap _ _ _ _ _ _ (heap_alloc_new w3 _)
     have hS3:=(HS.out.keep hb3).keep hbb;have hr4:=hr3.keep hbb;have hlo:∀ r,(Value.slice A k c).ownBlock=some r->r<wr.heap.size:=fun r hr=>(HS.out.own.lt r hr).2
     have hya:∀ r,(Value.slice A k c).ownBlock=some r->fA r (cvF x) m:=fun r hr=>fA.of_fresh hf3 (hlo r hr)
     have hfr:sZ (w.heap.size+3) (cvF x) m:=⟨fun h a e=>Nat.le_trans HS.out.sz (hf3.cl h a e),fun h a e=>Nat.le_trans HS.out.sz (hf3.co h a e),fun h a e=>Nat.le_trans HS.out.sz (hf3.si h a e)⟩;have HS3:=aA hS3;have HR4:=aA hr4;have HYA:=aA hya;have HFR:=aA hfr;have HYB:=aA hYb;have c3:=hS3.row3;clear hwb hbb hS3 hr4 hya hfr hYb hr3 hf3 hb3 hlo HCX HS;go_upto_region 12 with (go_at_call 76;refine (tV _).mono ?_;rintro e w4 ⟨rfl,hmw⟩;subst hmw)
     have hldc:=iO HYB.out rfl;have hsz3:=HS3.out.sz;have hbs:=fun W=>ZI (cvF x) m W
     have hone:∀ u∈(dS (cvF x) m).toList,u.oneCell'=true:=by
      intro u hu;have:=lu (cvF x) m;rw[Array.all_eq_true']at this;exact this u (by simpa using hu)
     have hlen:(dS (cvF x) m).toList.length=1*7:=rfl;have hcells:(dS (cvF x) m).toList=(⟨cvF x,m⟩:CoM).cells:=rfl;clear HYB;generalize dS (cvF x) m=Yi at *;have HLDC:=aA hldc;have HSZ3:=aA hsz3;have HBS:=aA hbs;have HONE:=aA hone;have HLEN:=aA hlen;have HCEL:=aA hcells;clear hldc hsz3 hbs hone hlen hcells;go_wp2_with (first
      | (refine bD rfl 27 _ rfl ⟨w3.heap.size,0,none⟩ (.agg Yi) rfl HLDC.out ?_)
      | (refine Za rfl 28 1 _ rfl #[(0,.agg Yi)] aG _ _ (HBS.out _) ?_)
      | (at_builtin;refine wpList_append_lies _ rfl _ _ 28 rfl (w.heap.size+3) 27 ii (.agg fU) 7 112 underlying28 HI.out.1 HI.out.2.1 HI.out.2.2.1 HI.out.2.2.2 rfl aK (.slice A k c) k (L.flatMap CoM.cells) rfl (HS3.out.keep (fJ _ _)).own ⟨w4.heap.size,0,none⟩ 1 1 Yi.toList rfl HLEN.out (World.news_of_block (heap_alloc_new w4 _)) HONE.out aB dh aB (by have:=HSZ3.out;simp;omega) _ rfl ?_;intro g' cap' w6 hown6 hgrow6 hgg6 hlt6;have hT6:aQ w6 w.heap.size 32 (bn N0 N1 x2 A k c fH).toArray:=(hgrow6.block _ (by have:=HSZ3.out;simp;omega) (fun e=>by have:=(HS3.out.own.lt _ e.symm).1;omega)).trans (HS3.out.keep (fJ _ _)).p.t;have c6:=hT6.cell (k:=3) (v:=.slice A k c) rfl;have f6:=frozen_of_row _ _ 3 _ _ hT6))
     rw[HCEL.out]at hown6;refine⟨⟨k+1,L++[⟨cvF x,m⟩],some ⟨g',0,none⟩,cap',⟨bg,aB⟩,aA ?_⟩,dD⟩;have hS5:PcS w F n N0 N1 x2 fH k L A c (w4.alloc (.cells Yi 27)):=HS3.out.keep (fJ _ _);exact hS5.grown (y:=⟨cvF x,m⟩) aB HXX.out HOK.out rfl (HR4.out.keep (fJ _ _)) HFR.out HYA.out hown6 hgrow6 hgg6
   ·obtain rfl:k=n-4:=aB;have hzc:=HS.out.field HZ.out aB;have j1:(0:Int)<=(n:Int)-1:=aB;have j2:(n:Int)-1<(n:Int):=aB;have j3:n-1<n:=aB;by_cases hz32:z.size=32;rotate_left
    ·have HR:=aA <| HDIE.out (if_neg (by
      intro h;simp only[Bool.and_eq_true]at h;exact hz32 ((zC HN.out.symm hn5.1 hn5.2 HZ.out).1 h.1.1.1).2.1))
     have d1:((z.size:Int)==32)=false:=aP;clear HDIE HGO;exact OZ
    have d1:((z.size:Int)==32)=true:=aP;obtain⟨l,hl⟩:∃ l,l=z.data.toList:=⟨_,rfl⟩;have hll:l.length=2*16:=by rw[hl,<-Lib.size_eq];omega
    have HLZ:=aA hl;have HLL:=aA hll;clear hl hll;go_upto_region 16 with (go_at_call 76;refine (tV _).mono ?_;rintro e w4 ⟨rfl,hmw⟩;subst hmw)
    have HS0:Hid (PcS w F n N0 N1 x2 (jg l 0) (n-4) L A c _):=HS;clear HS hzc;go_wp2;go_loopw [76] (fun vi wr=>∃ i:Nat,(vi=.int .i64 i/\i<=16)/\Hid (PcS w F n N0 N1 x2 (jg l i) (n-4) L A c wr)/\Hid (∀ j,j<i->kY l j)) (fun vi _=>16-(intOf vi).toNat)
    case atStart=>exact⟨0,⟨rfl,Nat.zero_le _⟩,HS0,aA (fun j h=>aB)⟩
    case round =>
     obtain⟨i,⟨rfl,hi⟩,HSi,HOKS⟩:=hrel;clear HS0;by_cases hil:i<16
     ·have hk0:(0:Int)<=(i:Int):=aB;have hk1:(i:Int)<16:=aB;have hiA:=fun W=>ZL W z i hz32 hil
      have hiB:=fun W=>ZN W z i hz32 hil
      rw[<-HLZ.out]at hiA hiB;have HIA:=aA hiA;have HIB:=aA hiB;clear hiA hiB;go_upto_region 19 with fail
      refine qm 13 aG aG aG (DL [IsV (.string z),IsV (.int .i64 i),IsV (.int .i64 (2*(i:Int))),IsV (.int .u8 ((uhA l i).toNat:Int)),IsV (.int .i64 (gy (uhA l i))),IsV (.string z),IsV (.int .i64 i),IsV (.int .i64 (2*(i:Int))),IsV (.int .i64 (2*(i:Int)+1)),IsV (.int .u8 ((uhB l i).toNat:Int)),IsV (.int .i64 (gy (uhB l i))),IsV (.int .i64 (gy (uhA l i))),IsV (.int .i64 (gy (uhB l i)))]) (DL.keep _ Dc) (PcS w F n N0 N1 x2 (jg l i) (n-4) L A c) (HSi.out.keep (Below.drew (Below.refl _ _))) (fun _ _ h hb=>h.keep hb) ?_ ?_
      ·dsimp only[List.take_succ_cons,List.take_zero,mf];refine⟨fun vals W hS hd=>?_,fun vals W hS hd=>?_,fun vals W hS hd=>?_,fun vals W hS hd=>?_,fun vals W hS hd=>?_,fun vals W hS hd=>?_,fun vals W hS hd=>?_,fun vals W hS hd=>?_,fun vals W hS hd=>?_,fun vals W hS hd=>?_,fun vals W hS hd=>?_,fun vals W hS hd=>?_,fun vals W hS hd=>?_,trivial⟩;all_goals
        (try simp only[bQ,DL,IsV,bV,Region.binds,and_true,true_and]at hd);simp only[aZ,bH,Act.put];(try simp only[hd]);(try obtain⟨hd1,hd2⟩:=hd);(try simp only[hd1,hd2]);(try clear hd);(try clear hd1 hd2);have hia:=HIA.out W;have hib:=HIB.out W;go_wp2_with (first | (go_at_call 79;refine (ZO _ _).mono ?_;rintro e w5 ⟨rfl,hw5⟩;subst hw5));exact⟨rfl,rfl,rfl,zU⟩
      intro vals wz hSz hDz;have e11:vals 11=.int .i64 (gy (uhA l i)):=hDz 11 aB;have e12:vals 12=.int .i64 (gy (uhB l i)):=hDz 12 aB;simp only[aZ,bH,Act.put];simp only[e11,e12];clear hDz e11 e12;have HSZ:=aA hSz;clear hSz HSi HIA HIB;by_cases hok:kY l i;rotate_left
      ·have HR:=aA <| HDIE.out (if_neg (by
        intro h;simp only[Bool.and_eq_true]at h;have h2:=((zC HN.out.symm hn5.1 hn5.2 HZ.out).1 h.1.1.1).2.2;rw[<-HLZ.out,Le 16 l HLL.out i hil hok]at h2;cases h2))
       clear HDIE HGO HOKS;unfold kY at hok;generalize gy (uhA l i)=da at *;generalize gy (uhB l i)=db at *;by_cases ha:0<=da
       ·have hb:¬ 0<=db:=fun h=>hok ⟨ha,h⟩
        exact Oa
       ·exact Oa
      have HOK2:=aA (ZP HOKS.out hok);have hput:=HSZ.out.put hil;have hvA:=Lc hok.1;have hvB:=Lc hok.2;have hA16:=(pg _).1 hok.1;have hB16:=(pg _).1 hok.2;have huv:((uhV l i:Nat):Int)=16*((jO (uhA l i):Nat):Int)+((jO (uhB l i):Nat):Int):=by unfold uhV;omega
      rw[huv]at hput;simp only[hvA,hvB];clear hvA hvB huv hok HOKS;generalize jO (uhA l i)=a at *;generalize jO (uhB l i)=b at *;have HPUT:=aA hput;clear hput;have ha0:(0:Int)<=(a:Int):=aB;have hb0:(0:Int)<=(b:Int):=aB;have ha1:(a:Int)<=15:=aB;have hb1:(b:Int)<=15:=aB;go_upto_region 21 with (go_at_call 76;refine (tV _).mono ?_;rintro e w4 ⟨rfl,hmw⟩;subst hmw)
      obtain⟨v4,hc4⟩:=HSZ.out.byte (Lh _ _ hi) hil;have hf4:=HSZ.out.free (4+i);go_wp2;exact⟨⟨i+1,⟨bg,aB⟩,HPUT,HOK2⟩,dD⟩
     ·obtain rfl:i=16:=aB;have hun:=Ld 16 l HLL.out HOKS.out;have hsok:=Xb HOKS.out;have hse:=XU l;have hfit:=HSi.out.fits HFS.out;have hx2:x2.size<=100000:=by
       rw[<-HG2.out,List.getD_eq_getElem?_getD,List.getElem?_eq_getElem o6];exact HFS.out _ (List.getElem_mem _)
      rw[hse]at HSi;generalize uhN l 16=sl at *;obtain⟨htr,hce,hcn⟩:=HSi.out.tok hsok;have hte:=ZH HN.out.symm hn5.1 HZ.out HG0.out HG1.out HG2.out (by rw[<-HLZ.out];exact hun);rw[HN0.out,HN1.out]at hte;have hokF:okF eF F=true:=(zC HN.out.symm hn5.1 hn5.2 HZ.out).2 ⟨HSi.out.ok,hz32,by rw[<-HLZ.out,hun];rfl⟩;obtain⟨T,hT⟩:∃ T:bz,T=⟨N0,N1,x2,((fB F).take (n-4)).map cvF,sl⟩:=⟨_,rfl⟩;rw[<-hT]at htr hce hte;have hTn:T.conds.length=n-4:=by rw[hT];exact hcn
      have hTi:T.id=x2:=by rw[hT]
      have hv:=fun (W:World) (hb:aF wr W)=>yZ ⟨T,A,c,L⟩ W (htr.keep hb) hfit (by show T.id.size<=_;rw[hTi];omega) (by show T.conds.length<=_;omega) (HE.out.keep (aV HSi.out.p.b hb))
      unfold ah.val at hv;rw[hce]at hv;have hXS:(bn N0 N1 x2 A (n-4) c sl).toArray.size=20:=HSi.out.size hsok.len;have hXO:(bn N0 N1 x2 A (n-4) c sl).toArray.all (·.oneCell')=true:=mi _ _ _ _ _ _ _;have hld:=dY HSi.out.p.t hXS;have HXS:=aA hXS;have HXO:=aA hXO;have HLD:=aA hld;have HV:=aA hv;have HTE:=aA hte;have HOF:=aA hokF;have HHT:=aA hT;have HFI:=aA HSi.out.fin;have HTR:=aA htr;have HCE:=aA hce;have HSO:=aA hsok;have HTN:=aA hTn;clear hXS hXO hld hv hte hokF hT htr hce hcn hfit hx2 hTi hse hun hsok hTn HOKS;cases hvt:gX T
      ·have HR:=aA <| HDIE.out (if_neg (by
        intro h;simp only[Bool.and_eq_true]at h;have:=h.2;rw[HTE.out,hvt]at this;cases this))
       rw[hvt]at HV;clear HDIE HGO hvt;go_wp2_with (first
        | (refine bD rfl 32 _ rfl ⟨w.heap.size,0,none⟩ (.agg (bn N0 N1 x2 A (n-4) c sl).toArray) rfl HLD.out ?_)
        | (go_at_call 14;refine (HV.out _ (Below.refl _ _)).mono ?_;rintro e w7 ⟨rfl,hb7⟩)
        | (go_at_call 76;refine (tX _).mono ?_;rintro e w4 ⟨rfl,hmw⟩;subst hmw))
       rw[HR.out];exact tZ (HSi.out.keep hb7).p HXS.out rfl rfl
      ·have HR:=aA <| HGO.out T (by
        rw[if_pos (by rw[HOF.out,HG0.out,HG1.out,HTE.out,hvt,HNUM.out.1,HNUM.out.2];rfl),HTE.out])
       rw[hvt]at HV;clear HDIE HGO hvt;go_upto_region 24 with (first
        | (refine bD rfl 32 _ rfl ⟨w.heap.size,0,none⟩ (.agg (bn N0 N1 x2 A (n-4) c sl).toArray) rfl HLD.out ?_)
        | (go_at_call 14;refine (HV.out _ (Below.refl _ _)).mono ?_;rintro e w7 ⟨rfl,hb7⟩)
        | (go_at_call 76;refine (tV _).mono ?_;rintro e w4 ⟨rfl,hmw⟩;subst hmw))
       have hS7:=HSi.out.keep hb7;have h9:=hS7.fin.tok HSO.out;rw[<-HHT.out]at h9;have HS7:=aA hS7;have HS8:=aA hS7.fin;have H9:=aA h9;have hld7:=dY hS7.p.t HXS.out;obtain⟨c8,f8⟩:=hS7.err;clear hS7 h9 HSi HLD HV hb7;go_wp2_with (first
        | (refine bD rfl 32 _ rfl ⟨w.heap.size,0,none⟩ (.agg (bn N0 N1 x2 A (n-4) c sl).toArray) rfl hld7 ?_)
        | (refine wpList_store_row rfl 32 _ _ rfl w.heap.size (bn N0 N1 x2 A (n-4) c sl).toArray rfl rfl _ (bn N0 N1 x2 A (n-4) c sl).toArray HS7.out.p.t (by rw[HXS.out];exact lC) rfl HXO.out ?_))
       rw[HR.out];exact ZB (x:=⟨T,A,c,L⟩) (by rw[H9.out.2.1];exact HS8.out.p) H9.out.1 rfl rfl
structure gz(w:World):Prop where
 e:Env w
 t:Tab w
 k:Ks w
 x:jP w
 h:5<w.heap.size
theorem gz.keep{w W:World}(h:gz w)(hb:aF w W):gz W:=⟨h.e.keep hb,h.t.keep hb,h.k.keep hb,h.x.keep hb,Nat.lt_of_lt_of_le h.h hb.size⟩
def noM:ae:=⟨none,0,none,0,none,0⟩
theorem Dl(W:World)(a b:Int)(p:aC)(u:Int):dA W ⟨a,b,p,[],[],[],u⟩ noM:=⟨aI.nil_ _ _ _,aI.nil_ _ _ _,aI.nil_ _ _ _⟩
theorem Dn(a b:Int)(p:aC)(u:Int)(h:p.size<=100000):dE ⟨a,b,p,[],[],[],u⟩:=⟨h,fun x hx=>by (cases hx),fun x hx=>by (cases hx),Nat.zero_le _,Nat.zero_le _,Nat.zero_le _⟩
theorem Ob:(bK aS).size<=1000000:=of_decide_eq_true aG
theorem Oc:(bK bS).size<=1000000:=of_decide_eq_true aG
theorem Dp:kD aS:=⟨Dn _ _ _ _ aK,J5,Ob⟩
theorem Oe:kD bS:=⟨Dn _ _ _ _ aK,Cc,Oc⟩
theorem nz{w:World}{y:ah}(hR:bZ w y){p:aY->Prop}(h:∀ c∈y.t.conds,p c):∀ z∈y.L,p z.c:=fun z hz=>h z.c (by rw[<-hR.same];exact List.mem_map_of_mem hz)
theorem Og{c:aY}(h:c∈tS.conds):kD c:=by
 rw[List.mem_singleton.1 (show c∈[aS] from h)];exact Dp
theorem tq{c:aY}(h:c∈nS.conds):kD c:=by
 rcases List.mem_cons.1 (show c∈[aS,bS] from h) with rfl | h
 ·exact Dp
 ·rw[List.mem_singleton.1 h];exact Oe
theorem QF{W:World}(h:gz W):Calls prog 12 #[.agg (#[.int .i64 9,.int .i64 1,.string (⟨#[107]⟩:aC),.int .i64 0,.int .i64 1000]:Array Value),.string (⟨#[102,105,108,109]⟩:aC),.agg (#[.int .i64 0,.int .i64 100,.string (⟨#[97,99,109,101,47,42,42]⟩:aC),.slice none 0 0,.slice none 0 0,.slice none 0 0,.int .i64 0]:Array Value)] W (jQ tS 0 W):=by
 have:=X7 kS (⟨#[102,105,108,109]⟩:aC) aS noM W (Dl W _ _ _ _) Dp.fits (fun _=>Ob) aK aK h.k h.e h.t;rw[WN]at this;exact this
theorem QH{W:World}(h:gz W){y:ah}(hR:bZ W y)(hy:y.t=tS):Calls prog 17 #[y.val,.agg (#[.int .i64 10,.int .i64 50,.string ⟨#[]⟩,.slice none 0 0,.slice none 0 0,.slice none 0 0,.int .i64 0]:Array Value)] W (jQ nS 0 W):=by
 have:=YM y bS noM W hR (Dl W _ _ _ _) Oe.fits (fun _=>Oc) eX eX h.k h.e h.t;rw[hy,WO]at this;exact this
theorem QK{W:World}(h:gz W){y:ah}(hR:bZ W y)(hy:y.t=nS):Calls prog 14 #[y.val] W (Ret W (.bool true)):=by
 have:=yZ y W hR (nz hR (p:=dE) zF) eX eX h.e;rw[hy,Ce]at this;exact this
theorem QJ{W:World}(h:gz W){y:ah}(hR:bZ W y)(hy:y.t=nS):Calls prog 19 #[y.val] W (zA mS W):=by
 have:=NZ y W hR (nz hR (p:=fun c=>bF c=true) (by rw[hy];exact fun c hc=>(tq hc).ok)) (nz hR (p:=dE) zF) eX eX h.e;rw[hy,J8]at this;exact this
theorem Zb:vM [kS]:=⟨List.pairwise_singleton _ _,fun k hk=>by rw[List.mem_singleton.1 hk];exact J6⟩
theorem Zc{W:World}{g:Nat}(h:aQ W g 23 (#[.int .i64 9,.int .i64 1,.string (⟨#[107]⟩:aC),.int .i64 0,.int .i64 1000]:Array Value)):lV W (some ⟨g,0,none⟩) 1 [kS]:=by
 refine⟨rfl,rfl,fun _=>⟨g,0,rfl,fun j u hu=>?_⟩⟩;have:=h.cell (k:=j) (v:=u) (by
  have e:([kS].flatMap aj.cells)=((#[.int .i64 9,.int .i64 1,.string (⟨#[107]⟩:aC),.int .i64 0,.int .i64 1000]:Array Value)).toList:=rfl;rw[e,Array.getElem?_toList]at hu;exact hu)
 rw[Nat.zero_add];exact this
theorem Dq{W:World}(h:gz W){y:ah}(hR:bZ W y)(hc:∀ c∈y.t.conds,kD c)(h1:1<=y.t.conds.length)(h2:y.t.conds.length<=1000)(hid:y.t.id.size<=1000000)(hp:InK y.t.cust)(hs:InK y.t.ser){g:Nat}(hg:aQ W g 23 (#[.int .i64 9,.int .i64 1,.string (⟨#[107]⟩:aC),.int .i64 0,.int .i64 1000]:Array Value))(a:dN)(ha:lD a){r:Int}(hr:iY [kS] y.t a=r) :
  Calls prog 29 #[.slice (some ⟨g,0,none⟩) 1 1,y.val,.agg (kF a).toArray] W (Ret W (.int .i64 r)):=by
 have:=Yp (some ⟨g,0,none⟩) 1 1 [kS] y a W (Zc hg) aK Zb hR (nz hR hc) ha h1 h2 hid hp hs h.k h.e h.t;rw[hr]at this;exact this
theorem in1:InK 9/\InK 1:=by unfold InK;omega
theorem zS(a:dN)(h1:a.addr.size<=100000)(h2:a.client.size<=100000)(h3:a.country.size<=100000):lD a:=⟨h1,h2,h3⟩
theorem Ea{W:World}(h:gz W){y:ah}(hR:bZ W y)(hy:y.t=tS){g:Nat}(hg:aQ W g 23 (#[.int .i64 9,.int .i64 1,.string (⟨#[107]⟩:aC),.int .i64 0,.int .i64 1000]:Array Value))(a:dN)(ha:lD a){r:Int}(hr:iY [kS] tS a=r):Calls prog 29 #[.slice (some ⟨g,0,none⟩) 1 1,y.val,.agg (kF a).toArray] W (Ret W (.int .i64 r)) :=
 Dq h hR (by rw[hy];exact fun c=>Og) eX eX eX (by rw[hy];exact in1.1) (by rw[hy];exact in1.2) hg a ha (by rw[hy];exact hr)
theorem Eb{W:World}(h:gz W){y:ah}(hR:bZ W y)(hy:y.t=nS){g:Nat}(hg:aQ W g 23 (#[.int .i64 9,.int .i64 1,.string (⟨#[107]⟩:aC),.int .i64 0,.int .i64 1000]:Array Value))(a:dN)(ha:lD a){r:Int}(hr:iY [kS] nS a=r):Calls prog 29 #[.slice (some ⟨g,0,none⟩) 1 1,y.val,.agg (kF a).toArray] W (Ret W (.int .i64 r)) :=
 Dq h hR (by rw[hy];exact fun c=>tq) eX eX eX (by rw[hy];exact in1.1) (by rw[hy];exact in1.2) hg a ha (by rw[hy];exact hr)
theorem QO{W:World}(h:gz W){y:ah}(hR:bZ W y)(hy:y.t=oI){g:Nat}(hg:aQ W g 23 (#[.int .i64 9,.int .i64 1,.string (⟨#[107]⟩:aC),.int .i64 0,.int .i64 1000]:Array Value))(a:dN)(ha:lD a){r:Int}(hr:iY [kS] oI a=r):Calls prog 29 #[.slice (some ⟨g,0,none⟩) 1 1,y.val,.agg (kF a).toArray] W (Ret W (.int .i64 r)) :=
 Dq h hR (by rw[hy];exact fun c=>Og) eX eX eX (by rw[hy];exact in1.1) (by rw[hy];exact in1.2) hg a ha (by rw[hy];exact hr)
theorem Dt:(jF nS).size<=1000:=of_decide_eq_true aG
theorem QS{W:World}(h:gz W){y:ah}(hR:bZ W y)(hy:y.t=nS):Calls prog 35 #[y.val] W (Ret W (.tuple #[.string (jF nS),.int .i64 0])):=by
 have:=Y6 y W hR (nz hR (p:=dE) zF) (fun _=>nz hR (by rw[hy];exact fun c=>tq)) eX eX (fun _=>by rw[hy];have:=Dt;omega) h.e h.t;rw[hy,Ce,if_pos rfl,if_pos rfl]at this;exact this
theorem QT{W:World}(h:gz W):Calls prog 37 #[.string (jF nS)] W (jQ nS 0 W):=by
 have hs:(jF nS).size<=131072:=by have:=Dt;omega
 have:=ZZ (jF nS) W hs (fun x hx=>Nat.le_trans (oU 59 (jF nS) x hx) (by have:=Dt;omega)) h.e h.x h.t h.h;rw[OD hs WT]at this;exact this
theorem QU(m:ae)(W:World)(hm:dA W mS m):Calls prog 21 #[ae.val mS m,.agg (#[.int .i64 10,.int .i64 50,.string (⟨#[97,99,109,101,47,42,42]⟩:aC),.slice none 0 0,.slice none 0 0,.slice none 0 0,.int .i64 0]:Array Value)] W (Ret W (.bool true)):=MI mS m noM W hm (Dl W _ _ _ _) (Dn _ _ _ _ aK)
theorem QW{W:World}{x y:ah}(hx:bZ W x)(hy:bZ W y)(ex:x.t=nS)(ey:y.t=nS):Calls prog 16 #[x.val,y.val] W (Ret W (.bool true)) :=
 Yx x y W hx hy (ey.trans ex.symm) (nz hx (p:=dE) (by rw[ex];exact fun c hc=>(tq hc).fits)) (by rw[ex];decide)
theorem QX{W:World}(h:gz W){y:ah}(hR:bZ W y)(hy:y.t=tS):Calls prog 22 #[y.val] W (Ret W (.agg (b8 (jR nS)).toArray)):=by
 have:=Nw y W eX eX eX hR.sl h.k h.t;rw[hy,WU]at this;exact this
theorem QY{W:World}(h:gz W){y:ah}(hR:bZ W y)(hy:y.t=nS):Calls prog 22 #[y.val] W (Ret W (.agg (b8 (jR nS)).toArray)):=by
 have:=Nw y W eX eX eX hR.sl h.k h.t;rw[hy]at this;exact this
theorem QZ{W:World}(h:gz W){y:ah}(hR:bZ W y)(hy:y.t=nS):Calls prog 24 #[y.val] W (Ret W (.int .i64 0)):=by
 have:=YQ y W hR (nz hR (p:=fun c=>bF c=true) (by rw[hy];exact fun c hc=>(tq hc).ok)) (nz hR (p:=dE) zF) eX eX h.e;rw[hy,J8]at this;exact this
end Go.Proofs.YtlkbkclnbppigaaGreatDoor
