/- What ChainIsNotWidened returns: true. -/
import Derived.Test.YtlkbkclnbppigaaGreatDoorWY5
import Derived.Test.YtlkbkclnbppigaaGreatDoorCards
import Derived.Test.YtlkbkclnbppigaaGreatDoorTie
set_option maxHeartbeats 32000000
namespace Go.Proofs.YtlkbkclnbppigaaGreatDoor
open _root_.Go.Proofs.Tryz _root_.Go.Proofs.YtlkbkclnbppigaaGreatDoor.Tryz
open Go.RowKit Go.Sort
set_option linter.unusedVariables false
set_option linter.unusedSimpArgs false
set_option maxRecDepth 100000
theorem aKv(k:aj)(id:aC)(A:Option Addr)(n c:Nat)(L:List CoM)(oc:aY)(wy0 nu0 ft0:Int)(om:ae)(w:World)(hid63:id.size<=9223372036854775807)(hA:pW w A n L)(hnc:n<=c)(hn63:n<=9223372036854775807)(hC:dA w oc om)(hw0:0<=wy0)(hw1:wy0<=255)(hu0:0<=nu0)(hu1:nu0<=255)(hf0:0<=ft0)(hf1:ft0<=255)(hLE:gz w/\Ks2 w) :
  Calls prog 5 #[k.val,.string id,.slice A n c,ae.val oc om,.int .u8 wy0,.int .u8 nu0,.int .u8 ft0] w (Ret w (.bool true)):=by
 obtain⟨wy,rfl⟩:=Int.eq_ofNat_of_zero_le hw0;obtain⟨nu,rfl⟩:=Int.eq_ofNat_of_zero_le hu0;obtain⟨ft,rfl⟩:=Int.eq_ofNat_of_zero_le hf0;obtain⟨hL,hK2⟩:=hLE;rw[aj.val_arr,oJ];have hln:=hA.len;obtain⟨KA,hKA⟩:∃ KA,KA=k.arr:=⟨_,rfl⟩;obtain⟨YC,hYC⟩:∃ YC,YC=dS oc om:=⟨_,rfl⟩;have hyl:YC.toList=(⟨oc,om⟩:CoM).cells:=by rw[hYC];rfl
 have hys:YC.size=7:=by rw[hYC];rfl
 have hyo:YC.all (·.oneCell')=true:=by rw[hYC];exact lu _ _
 rw[<-hKA,<-hYC];obtain⟨S,hSD⟩:∃ S,S=NwS w KA YC:=⟨_,rfl⟩;have hsk:∀ W W',S W->aF W W'->S W':=by rw[hSD];exact fun _ _ h hb=>h.keep hb
 have hsb:∀ W,S W->aF w W:=by rw[hSD];exact fun _ h=>h.b
 have ldK:∀ W,S W->(loadVar 23 ⟨w.heap.size,0,none⟩).run prog W=.ok (.agg KA) W:=by rw[hSD,hKA];exact fun W h=>iM h.k kJ
 have ldC:∀ W,S W->(loadVar 27 ⟨w.heap.size+1,0,none⟩).run prog W=.ok (.agg YC) W:=by rw[hSD];exact fun W h=>iO h.c hys
 have hvk:∀ W,Calls prog 31 #[.agg KA] W (Ret W (.bool (lQ k))):=by rw[hKA];exact fun W=>aEd k W
 have hsa:∀ W,S W->Calls prog 11 #[] W (Ret W (.bool true)):=fun W h=>aBe W (hL.keep (hsb _ h))
 have hs0:S ((w.alloc (.cells KA 23)).alloc (.cells YC 27)):=by rw[hSD];exact⟨(gQ w _ _).1,(gQ w _ _).2,aJ⟩
 have hfo:∀ W,aF w W->Calls prog 9 #[.agg YC] W (Ret W (.bool (II oc))):=by rw[hYC];exact fun W hb=>aEh oc om W (hC.keep hb)
 have hvo:II oc=true->∀ W,aF w W->Calls prog 32 #[.agg YC] W (Ret W (.bool (bF oc))):=by rw[hYC];exact fun hf W hb=>aCb oc om W (hC.keep hb) (IB hf).p (IB hf).cl (IB hf).co (IB hf).n1 (IB hf).n2 (IB hf).n3
 have hfc:∀(u:CoM),u∈L->∀ W,aF w W->Calls prog 9 #[.agg (dS u.c u.m)] W (Ret W (.bool (II u.c))):=fun u hu W hb=>aEh u.c u.m W ((hA.each u hu).keep hb)
 have hvc:∀(u:CoM),u∈L->II u.c=true->∀ W,aF w W->Calls prog 32 #[.agg (dS u.c u.m)] W (Ret W (.bool (bF u.c))):=fun u hu hf W hb=>aCb u.c u.m W ((hA.each u hu).keep hb) (IB hf).p (IB hf).cl (IB hf).co (IB hf).n1 (IB hf).n2 (IB hf).n3
 obtain⟨vk,hvke⟩:∃ vk,vk=lQ k:=⟨_,rfl⟩;rw[<-hvke]at hvk;obtain⟨fo,hfoe⟩:∃ fo,fo=II oc:=⟨_,rfl⟩;obtain⟨vo,hvoe⟩:∃ vo,vo=bF oc:=⟨_,rfl⟩;rw[<-hfoe]at hfo hvo;rw[<-hvoe]at hvo;have HSK:=aA hsk;have HSB:=aA hsb;have LDK:=aA ldK;have LDC:=aA ldC;have HVK:=aA hvk;have HSA:=aA hsa;have HS0:=aA hs0;have HFO:=aA hfo;have HVO0:=aA hvo;have HFC:=aA hfc;have HVC0:=aA hvc;have HVKE:=aA hvke;have HFOE:=aA hfoe;have HVOE:=aA hvoe;have HA:=aA hA;have HLN:=aA hln;have HC:=aA hC;have HL:=aA hL;have HK2:=aA hK2;have HSD:=aA hSD;have HKA:=aA hKA;have HYL:=aA hyl;have HYSS:=aA hys;have HYOO:=aA hyo;clear hsk hsb ldK ldC hvk hsa hs0 hfo hvo hfc hvc hvke hfoe hvoe hA hL hK2 hln hC hSD hKA hYC hyl hys hyo;cases vk
 ·skip;exact aBx
 by_cases hid:200<id.size
 ·have i1:decide ((200:Int)<(id.size:Int))=true:=decide_eq_true aB;exact aBx
 have i1:decide ((200:Int)<(id.size:Int))=false:=decide_eq_false aB;by_cases hn1:n<1
 ·have i2:decide ((n:Int)<(1:Int))=true:=decide_eq_true aB;exact aBx
 have i2:decide ((n:Int)<(1:Int))=false:=decide_eq_false aB;by_cases hbig:16<n
 ·have i3:decide ((16:Int)<(n:Int))=true:=decide_eq_true aB;exact aBx
 have i3:decide ((16:Int)<(n:Int))=false:=decide_eq_false aB;cases fo
 ·skip;exact aBx
 have HVO:=aA (HVO0.out rfl);clear HVO0;cases vo
 ·skip;exact aBx
 have HYCO:=aA (aGb HFOE.out.symm HVOE.out.symm);clear HFOE HVOE;obtain⟨G,hG⟩:∃ G:Nat->Prop,G=fun i=>∀ x∈L.take i,kD x.c:=⟨_,rfl⟩
 have hg0:G 0:=by rw[hG];intro x hx;cases hx
 have hgs:∀(i:Nat)(u:CoM),L[i]? = some u->G i->kD u.c->G (i+1):=by rw[hG];exact fun i u hu h hc=>aKu hu h hc
 have hgn:G n->∀ x∈L,kD x.c:=by
  rw[hG];exact fun h x hx=>h x (by rw[List.take_of_length_le aBw];exact hx)
 have HG0:=aA hg0;have HGS:=aA hgs;have HGN:=aA hgn;clear hg0 hgs hgn hG;obtain⟨b,o,hAe,hrow⟩:=HA.out.rows.2 aB;subst hAe;have HROW:=aA hrow;clear hrow;go_enter func5,ntmps5;go_upto_region 1 with fail
 generalize hw0:World.alloc _ _=w0;have hS:S w0:=aGc;clear hw0;go_wp2_with (first | (first | (refine bD rfl 23 _ rfl ⟨w.heap.size,0,none⟩ (.agg KA) rfl (LDK.out _ hS) ?_) | (go_big_want;refine jE 23 _ rfl ⟨w.heap.size,0,none⟩ (.agg KA) rfl (LDK.out _ hS) ?_;simp only[Act.put,ag])) | (first | (refine bD rfl 27 _ rfl ⟨w.heap.size+1,0,none⟩ (.agg YC) rfl (LDC.out _ hS) ?_) | (go_big_want;refine jE 27 _ rfl ⟨w.heap.size+1,0,none⟩ (.agg YC) rfl (LDC.out _ hS) ?_;simp only[Act.put,ag])) | ((first | (go_at_call 31;refine (HVK.out _).mono ?_) | (go_at_call 9;refine (HFO.out _ (HSB.out _ hS)).mono ?_) | (go_at_call 32;refine (HVO.out _ (HSB.out _ hS)).mono ?_));(rintro e w' ⟨rfl,hb'⟩;replace hS:=HSK.out _ _ hS hb';clear hb')));have HS:=aA hS;clear hS;go_loopw [57] (fun iv wr=>∃ i:Nat,i<=n/\iv=.int .i64 i/\Hid (S wr)/\Hid (G i)) (fun iv _=>n-(intOf iv).toNat)
 case atStart=>exact⟨0,aB,rfl,HS,HG0⟩
 case round =>
  clear HS HS0;obtain⟨i,hi,rfl,HS,HG⟩:=hrel;have hbr:=HSB.out _ HS.out;by_cases hlt:i<n
  ·skip;obtain⟨x,hx⟩:∃ x,L[i]? = some x:=⟨_,List.getElem?_eq_getElem aBw⟩;have hcell:∀ j u,x.cells[j]? = some u->wr.cell? ⟨b,o+i*7+j,none⟩=some u:=by
    obtain⟨_,b2,o2,e2,hc2⟩:=(HA.out.keep hbr).at_ hx;injection e2 with e2
    injection e2 with e3 e4
    subst e3;subst e4;exact hc2
   have hld:=pX wr b (o+i*7) x hcell;rw[oJ]at hld;have HX:=aA hx;obtain⟨Yi,hYi⟩:∃ Yi,Yi=dS x.c x.m:=⟨_,rfl⟩;rw[<-hYi]at hld;have HYS:=aA (show Yi.size=7 by rw[hYi];rfl);have HYO:=aA (show Yi.all (·.oneCell')=true by rw[hYi];exact lu _ _);have HYI:=aA (show (prog.info? 27).map (·.size)=some Yi.size by rw[hYi];exact lq);have HLD:=aA hld;have hk0:(0:Int)<=(i:Int):=aB;have hk1:(i:Int)<(n:Int):=aB;have hxm:=List.mem_of_getElem? hx;have hfw:=HFC.out x hxm;have hvc:=HVC0.out x hxm;rw[<-hYi]at hfw hvc;have hgx:=HGS.out i x hx HG.out;have hco:=@aGb x.c;generalize II x.c=fv at *;generalize bF x.c=vv at *;have HFW:=aA hfw;have HVC1:=aA hvc;have HGX:=aA hgx;have HCO:=aA hco;clear hfw hvc hgx hco hxm hx hYi hcell hld;go_upto_region 6 with (first | (refine bD rfl 27 _ rfl ⟨b,o+i*7,none⟩ (.agg Yi) rfl HLD.out ?_) | (refine wpList_store_row rfl 27 _ _ rfl wr.heap.size Yi rfl rfl _ fU (heap_alloc_new wr _) HYI.out (by rw[HYS.out];rfl) HYO.out ?_))
   (try dsimp only[Act.put]);generalize hwx:World.setRow _ _ _=w3;have hB:aQ w3 wr.heap.size 27 Yi:=aGd;have hbx:aF wr w3:=uI;clear hwx;have hS:=HSK.out _ _ HS.out hbx;generalize hgc:wr.heap.size=gc at *;clear hbx hgc;cases fv
   ·go_wp2_with (first | (first | (refine bD rfl 27 _ rfl ⟨gc,0,none⟩ (.agg Yi) rfl (iO hB HYS.out) ?_) | (go_big_want;refine jE 27 _ rfl ⟨gc,0,none⟩ (.agg Yi) rfl (iO hB HYS.out) ?_;simp only[Act.put,ag])) | ((first | (go_at_call 9;refine (HFW.out _ (HSB.out _ hS)).mono ?_) | (go_at_call 11;refine (HSA.out _ hS).mono ?_));(rintro e w' ⟨rfl,hb'⟩;replace hS:=HSK.out _ _ hS hb';replace hB:=hB.keep hb';clear hb')));go_ret;exact⟨rfl,HSB.out _ hS⟩
   have HVC:=aA (HVC1.out rfl);clear HVC1;cases vv
   ·go_wp2_with (first | (first | (refine bD rfl 27 _ rfl ⟨gc,0,none⟩ (.agg Yi) rfl (iO hB HYS.out) ?_) | (go_big_want;refine jE 27 _ rfl ⟨gc,0,none⟩ (.agg Yi) rfl (iO hB HYS.out) ?_;simp only[Act.put,ag])) | ((first | (go_at_call 9;refine (HFW.out _ (HSB.out _ hS)).mono ?_) | (go_at_call 32;refine (HVC.out _ (HSB.out _ hS)).mono ?_) | (go_at_call 11;refine (HSA.out _ hS).mono ?_));(rintro e w' ⟨rfl,hb'⟩;replace hS:=HSK.out _ _ hS hb';replace hB:=hB.keep hb';clear hb')));go_ret;exact⟨rfl,HSB.out _ hS⟩
   go_wp2_with (first | (first | (refine bD rfl 27 _ rfl ⟨gc,0,none⟩ (.agg Yi) rfl (iO hB HYS.out) ?_) | (go_big_want;refine jE 27 _ rfl ⟨gc,0,none⟩ (.agg Yi) rfl (iO hB HYS.out) ?_;simp only[Act.put,ag])) | ((first | (go_at_call 9;refine (HFW.out _ (HSB.out _ hS)).mono ?_) | (go_at_call 32;refine (HVC.out _ (HSB.out _ hS)).mono ?_));(rintro e w' ⟨rfl,hb'⟩;replace hS:=HSK.out _ _ hS hb';replace hB:=hB.keep hb';clear hb')));have HS':=aA hS;exact⟨⟨i+1,aB,bg,HS',aA (HGX.out (HCO.out (by trivial) (by trivial)))⟩,dD⟩
  ·have hin:n=i:=aB;subst hin;have HOK:=aA (HGN.out HG.out);have hS:=HS.out;clear HG HGN HGS HS HG0 hlt hbr HFC HVC0 HVK HFO HVO;obtain⟨wl,hwl⟩:∃ wl,wl=wr:=⟨_,rfl⟩;subst hwl;obtain⟨nm,hnm⟩:∃ nm,nm=bU id:=⟨_,rfl⟩;obtain⟨ER,hER⟩:∃ ER:Int,ER=(if nm=true then 0 else 1):=⟨_,rfl⟩;obtain⟨TFzz,hTF⟩:∃ TFzz:Nat->bz,TFzz=fun j=>if nm=true then FX k id (csL L j) else iK:=⟨_,rfl⟩
   have hcn:∀(j:Nat)(W:World),1<=j->j<=n->S W->Calls prog 33 #[.agg KA,.string id,.slice (some ⟨b,o,none⟩) j c] W (aCe (TFzz j) ER W):=fun j W h1 hj h=>by
    have:=aJx k id (some ⟨b,o,none⟩) j c (L.take j) W ((HA.out.keep (HSB.out _ h)).first hj) HVKE.out.symm aB h1 aB (fun x hx=>HOK.out x (List.mem_of_mem_take hx)) (HK2.out.keep (HSB.out _ h));rw[aj.val_arr,aKb,<-HKA.out,<-hnm,<-hER]at this;rw[hTF];exact this
   have htf:nm=true->∀ j,TFzz j=FX k id (csL L j):=fun h j=>by rw[hTF,h];rfl
   have her:nm=true->ER=0:=fun h=>by rw[hER,h];rfl
   have her1:nm=false->ER=1:=fun h=>by rw[hER,h];rfl
   have HCN:=aA hcn;have HTF:=aA htf;have HER:=aA her;have HER1:=aA her1;clear hcn htf her her1 hTF hER hnm;go_upto_region 10 with (first | (refine bD rfl 23 _ rfl ⟨w.heap.size,0,none⟩ (.agg KA) rfl (LDK.out _ hS) ?_) | (go_at_call 33;refine (HCN.out n _ aB (Nat.le_refl _) hS).mono ?_;rintro e w1 ⟨hb1,y1,rfl,hr1,ht1⟩;replace hS:=HSK.out _ _ hS hb1;have hm1:=aFy hr1 ER;obtain⟨X1,hX1⟩:∃ X1,X1=(y1.cells++[Value.int .i64 ER]).toArray:=⟨_,rfl⟩;rw[<-hX1]at hm1 ⊢;have HM1:=aA hm1;clear hm1 hX1 hr1) | (refine wpList_store_row rfl 40 _ _ rfl w1.heap.size X1 rfl rfl _ aBg (heap_alloc_new w1 _) (by rw[HM1.out.s];exact MB) (by rw[HM1.out.s];rfl) HM1.out.o ?_))
   (try dsimp only[Act.put]);have hsn:∀ W,S W->NwS w KA YC W:=by rw[HSD.out];exact fun _ h=>h
   have hsp:∀ W,NwS w KA YC W->S W:=by rw[HSD.out];exact fun _ h=>h
   have hgw1:w.heap.size+2<=w1.heap.size:=by have:=vV (hsn _ hS).c;omega
   generalize hwx:World.setRow _ _ _=w2;have hB1:aQ w2 w1.heap.size 40 X1:=by rw[<-hwx];exact setRow_heap _ _ _ _ _ _ (heap_alloc_new w1 _)
   have hbx:aF w1 w2:=uI;replace hS:=HSK.out _ _ hS hbx;have hgl1:w1.heap.size<w2.heap.size:=vV hB1;have HSN:=aA hsn;have HSP:=aA hsp;generalize hg1:w1.heap.size=g1 at *;clear hwx hbx hg1 hb1 hsn hsp;obtain⟨rr,hrr⟩:∃ rr,rr=ft % n:=⟨_,rfl⟩;have hrl:rr<n:=by rw[hrr];exact Nat.mod_lt _ aB
   have hrm:(ft:Int).tmod (n:Int)=(rr:Int):=by rw[hrr];rfl
   have hre:(ft:Int) % (n:Int)=(rr:Int):=by rw[hrr];rfl
   obtain⟨jj,hjj⟩:∃ jj,jj=1+rr:=⟨_,rfl⟩;have hj1:(1:Int)+(rr:Int)=(jj:Int):=aB;have hjn:jj<=n:=aB;have h1j:1<=jj:=aB;clear hrr hjj;have i0:¬ (n:Int)=0:=aB;have hS2:S w2/\aQ w2 g1 40 X1:=⟨hS,hB1⟩;have HS2:=aA hS2;clear hS hB1 hS2;refine qm 12 aG aG aG (DL [IsV (.agg KA),IsV (.string id),IsV (.slice (some ⟨b,o,none⟩) n c),IsV (.int .u8 (ft:Int)),IsV (.int .i64 (ft:Int)),IsV (.slice (some ⟨b,o,none⟩) n c),IsV (.int .i64 (n:Int)),IsV (.int .i64 (rr:Int)),IsV (.int .i64 (jj:Int)),IsV (.slice (some ⟨b,o,none⟩) jj c),MdQ (TFzz jj) ER,NwM w2.heap.size]) (DL.keep _ (by simp only[qp];repeat' (first | apply And.intro | exact vU _ | exact aKh _ _ | exact aFm _ | exact trivial))) (fun W=>(S W/\aQ W g1 40 X1)/\w2.heap.size<=W.heap.size) ⟨⟨HSK.out _ _ HS2.out.1 (Below.drew (Below.refl _ _)),HS2.out.2.keep (Below.drew (Below.refl _ _))⟩,Nat.le_refl _⟩ (fun _ _ h hb=>⟨⟨HSK.out _ _ h.1.1 hb,h.1.2.keep hb⟩,Nat.le_trans h.2 hb.size⟩) ?_ ?_
   ·dsimp only[List.take_succ_cons,List.take_zero,mf];refine⟨fun vals W hS hd=>?_,fun vals W hS hd=>?_,fun vals W hS hd=>?_,fun vals W hS hd=>?_,fun vals W hS hd=>?_,fun vals W hS hd=>?_,fun vals W hS hd=>?_,fun vals W hS hd=>?_,fun vals W hS hd=>?_,fun vals W hS hd=>?_,fun vals W hS hd=>?_,fun vals W hS hd=>?_,trivial⟩
    ·(try simp only[bQ,DL,IsV,bV,Region.binds,and_true,true_and]at hd);simp only[aZ,kM,Act.put,ag,bV];(try simp only[hd]);clear hd;have hld:=LDK.out W hS.1.1;go_wp2_with (refine bD rfl 23 _ rfl ⟨w.heap.size,0,none⟩ (.agg KA) rfl hld ?_);exact⟨rfl,rfl,rfl,aJ⟩
    rotate_left 9
    ·(try simp only[bQ,DL,IsV,bV,Region.binds,and_true,true_and]at hd);simp only[aZ,kM,Act.put,ag,bV];(try simp only[hd]);clear hd;have HCJ:=aA (HCN.out jj W h1j hjn hS.1.1);go_wp2_with (go_at_call 33;refine HCJ.out.mono ?_;rintro e w5 ⟨hb5,y,rfl,hy,ht⟩);exact⟨rfl,⟨y,rfl,hy,ht⟩,rfl,aJ⟩
    ·exact aFq
    all_goals
     exact aDt
   intro vals w9 hS9 hD9;obtain⟨y2,e10,hy2,ht2⟩:MdQ (TFzz jj) ER (vals 10) w9:=hD9 10 aB;obtain⟨g2,e11,hg2,hbx2⟩:NwM w2.heap.size (vals 11) w9:=hD9 11 aB;simp only[aZ,kM,Act.put,ag,bV];simp only[e10,e11];have hm2:=aFy hy2 ER;obtain⟨X2,hX2⟩:∃ X2,X2=(y2.cells++[Value.int .i64 ER]).toArray:=⟨_,rfl⟩;rw[<-hX2]at hm2 ⊢;have HM2:=aA hm2;have HBX:=aA hbx2;have HS9:=aA hS9;clear hm2 hX2 hy2 hbx2 hS9 hD9 e10 e11 hrm hre hj1 HCN;go_upto_region 11 with (refine wpList_store_row rfl 40 _ _ rfl g2 X2 rfl rfl _ aBg HBX.out (by rw[HM2.out.s];exact MB) (by rw[HM2.out.s];rfl) HM2.out.o ?_)
   (try dsimp only[Act.put]);have hg12:g1<g2:=aB;generalize hwx:World.setRow _ _ _=w3;have hT:NwT w KA YC X1 X2 g1 g2 w3:=by
    have hs:=HSN.out _ HS9.out.1.1;rw[<-hwx];exact⟨⟨(setRow_other _ _ _ _ aB).trans hs.k,(setRow_other _ _ _ _ aB).trans hs.c,below_setRow hs.b aB _⟩,(setRow_other _ _ _ _ aB).trans HS9.out.1.2,setRow_heap _ _ _ _ _ _ HBX.out⟩
   have hg2l:g2<w3.heap.size:=vV hT.b;clear hwx HBX HS9 HS2;have c1:=HM1.out.e _ _ hT.a;have c2:=HM2.out.e _ _ hT.b;have HT:=aA hT;have hS:=HSP.out _ hT.s;clear hT;cases nm
   ·obtain rfl:ER=1:=HER1.out rfl;clear HT HM1 HM2 HER HER1 HTF;exact aDw
   obtain rfl:ER=0:=HER.out rfl;clear HER HER1;obtain⟨ii,hii⟩:∃ ii,ii=nu % n:=⟨_,rfl⟩;have hil:ii<n:=by rw[hii];exact Nat.mod_lt _ aB
   have him:(nu:Int).tmod (n:Int)=(ii:Int):=by rw[hii];rfl
   have hie:(nu:Int) % (n:Int)=(ii:Int):=by rw[hii];rfl
   obtain⟨ww,hww⟩:∃ ww,ww=wy % 3:=⟨_,rfl⟩;have hwl3:ww<3:=aB;have hwm:(wy:Int).tmod 3=(ww:Int):=by rw[hww];rfl
   have hwe:(wy:Int) % 3=(ww:Int):=by rw[hww];rfl
   clear hii hww;obtain⟨i0,hi0,hz0,hz1,hz2⟩:=info_parts DT;have HI:=aA (And.intro hi0 (And.intro hz0 (And.intro hz1 hz2)));obtain⟨xs,hxs⟩:∃ xs,xs=L.flatMap CoM.cells:=⟨_,rfl⟩;have hxl:xs.length=n*7:=by rw[hxs,aBi CoM.cells 7 (fun a=>a.cells_len),HLN.out]
   have hx1:∀ u∈xs,u.oneCell'=true:=by rw[hxs];exact NJ _
   have hxc:∀(W:World),aF w W->∀ j u,xs[j]? = some u->W.cell? ((⟨b,o,none⟩:Addr).add j)=some u:=fun W hb j u hu=>by
    exact aFj
   have hbS:=HSB.out _ hS;have hol:=World.ownsRow_lit (base:=w3.heap.size) (e:=27) (size:=7) w3 #[] 0 (Nat.le_refl _) dh rfl;have HXC:=aA hxc;have HXL:=aA hxl;have HX1:=aA hx1;have HXS:=aA hxs;have HOL:=aA hol;have HBS:=aA hbS;clear hi0 hz0 hz1 hz2 hxc hxl hx1 hxs hol hbS;go_upto_block 2 with (at_builtin;refine aFf rfl _ _ 28 rfl w3.heap.size 27 i0 (.agg fU) 7 112 underlying28 HI.out.1 HI.out.2.1 HI.out.2.2.1 HI.out.2.2.2 rfl aK w3.heap.size rfl HOL.out ⟨b,o,none⟩ n c xs aB rfl HXL.out (HXC.out _ (HBS.out.alloc HBS.out.size _)) HX1.out dh aB aH ?_;intro v6 w6 hown6 hb6)
   rw[Nat.zero_add,List.nil_append,HXS.out]at hown6;obtain⟨g,cap,cur,rfl,hgb,hrow6⟩:=aKc hown6 HLN.out aB;have hb36:aF w3 w6:=((Below.refl _ _).alloc (Nat.le_refl _) _).trans (hb6.mono aH);have hgg:w.heap.size+2<=g/\g1<g/\g2<g:=aB;have hV:NwV w KA YC X1 X2 g1 g2 g cap n L w6:=⟨HT.out.keep hb36,⟨cur,hrow6⟩,HLN.out,HOK.out,fun x hx W hb=>(HA.out.each x hx).keep hb⟩;have HV:=aA hV;have HR6:=aA hrow6;clear hown6 hb36 hV hrow6 hb6 hgb hS HOL HXL HX1 HXS HBS HXC HT c1 c2 him hie;have hcap:n<=cap:=by have:=HR6.out.n;have:=HLN.out;omega
   have hcs:=HR6.out.s;have hwk:(ii:Int)<(n:Int):=aB;have hsub:∀(M:List CoM)(x:CoM),x∈M->(∀ z∈M,z∈L\/z=⟨oc,om⟩)->x∈L\/(kD x.c/\∀ W,aF w W->dA W x.c x.m):=fun M x hx h=>by
    rcases h x hx with h | h
    ·exact .inl h
    ·rw[h];exact .inr ⟨HYCO.out,fun W hb=>HC.out.keep hb⟩
   have HSUB:=aA hsub;have HCS:=aA hcs;clear hsub hcs;obtain⟨i1,hi1⟩:∃ i1,i1=ii+1:=⟨_,rfl⟩;have hq1:(ii:Int)+1=(i1:Int):=aB;have HI1:=aA hi1;clear hi1;have hi1n:i1<=n:=by have:=HI1.out;omega
   go_cut [20] (fun v wx=>∃(M:List CoM)(mn:Nat),v=.slice (some ⟨g,0,none⟩) mn cap/\mn<=16/\Hid (NwV w KA YC X1 X2 g1 g2 g cap mn M wx))
   case first =>
    rcases (by omega:ww=0\/ww=1\/ww=2) with rfl | rfl | rfl
    ·go_upto_region 18 with fail
     obtain⟨AD,hAD⟩:∃ AD:Addr,AD=if cap=i1 then ⟨g,0,none⟩ else ⟨g,i1*7,none⟩:=⟨_,rfl⟩
     obtain⟨m1,hm1⟩:∃ m1,m1=n-i1:=⟨_,rfl⟩;obtain⟨k1,hk1⟩:∃ k1,k1=cap-i1:=⟨_,rfl⟩;have hsl1:∀ W,(Instr.sliceAt 28 (.slice (some ⟨g,0,none⟩) n cap) none (some (.int .i64 (ii:Int))) none).run prog W=.ok (.slice (some ⟨g,0,none⟩) ii cap) W:=fun W=>aKq W g n cap ii aB
     have hsl2:∀ W,(Instr.sliceAt 28 (.slice (some ⟨g,0,none⟩) n cap) (some (.int .i64 (i1:Int))) none none).run prog W=.ok (.slice (some AD) m1 k1) W:=fun W=>by rw[hAD,hm1,hk1];exact aKr W g n cap i1 hi1n
     have hrest:∀ W,lS W g cap L cur->∀ q u,((L.drop i1).flatMap CoM.cells)[q]? = some u->W.cell? (AD.add q)=some u:=fun W h=>by rw[hAD];exact h.rest aBw
     have HM1N:=aA hm1;have HSL1:=aA hsl1;have HSL2:=aA hsl2;have HREST:=aA hrest;clear hAD hm1 hk1 hsl1 hsl2 hrest;refine Ec 7 aG aG aG (fun i=>[.slice (some ⟨g,0,none⟩) n cap,.int .i64 (ii:Int),.slice (some ⟨g,0,none⟩) ii cap,.slice (some ⟨g,0,none⟩) n cap,.int .i64 (ii:Int),.int .i64 (i1:Int),.slice (some AD) m1 k1].getD i undef) (fun W=>NwV w KA YC X1 X2 g1 g2 g cap n L W/\lS W g cap L cur) ⟨HV.out.keep (Below.drew (Below.refl _ _)),HR6.out.keep (Below.drew (Below.refl _ _))⟩ (fun _ _ h hb=>⟨h.1.keep hb,h.2.keep hb⟩) ?_ ?_
     ·simp only[aZ,kM,Act.put,ag,bV];refine⟨fun W hS=>?_,fun W hS=>?_,fun W hS=>?_,fun W hS=>?_,fun W hS=>?_,fun W hS=>?_,fun W hS=>?_,trivial⟩;all_goals
       have e1:=HSL1.out W;have e2:=HSL2.out W;go_wp2;exact⟨rfl,rfl,zU⟩
     intro wz hS;simp only[aZ,kM,Act.put,ag,bV];have hnl:=aBi CoM.cells 7 (fun a=>a.cells_len) (L.drop i1);rw[List.length_drop,HLN.out,<-HM1N.out]at hnl;have hi7:i0.size=7:=HI.out.2.2.1;have har:=run_append_room (P:=prog) wz 28 28 27 i0 underlying28 HI.out.1 g ii cap cur hS.2.b AD m1 k1 ((L.drop i1).flatMap CoM.cells) (by rw[hi7];exact hnl) (HREST.out _ hS.2) (NJ _) (by have:=HM1N.out;omega) (by rw[hi7,hnl,hS.2.s];have:=HM1N.out;have:=HI1.out;omega);rw[hi7,HI1.out]at har;have hcut:=hS.2.cut (i:=ii) (by rw[HLN.out];omega);obtain⟨ca,hca⟩:∃ ca,ca=(cur.toList.take (ii*7)++(L.drop (ii+1)).flatMap CoM.cells++cur.toList.drop (ii*7+((L.drop (ii+1)).flatMap CoM.cells).length)).toArray:=⟨_,rfl⟩;rw[<-hca]at har hcut;have HAR:=aA har;have HCUT:=aA hcut;clear har hnl hi7 hcut hca;go_wp2_with (at_builtin;refine aKo rfl _ _ 28 rfl _ _ _ _ rfl rfl HAR.out ?_);go_meet;exact⟨L.eraseIdx ii,ii+m1,rfl,by have:=HM1N.out;omega,aA (hS.1.next hgg HCUT.out (by rw[List.length_eraseIdx,HLN.out,if_pos hil];have:=HM1N.out;have:=HI1.out;omega) (fun x hx=>.inl (List.mem_of_mem_eraseIdx hx)))⟩
    ·have hp1:=HR6.out.put (i:=ii) ⟨oc,om⟩ (by rw[HLN.out];omega);obtain⟨ca,hca⟩:∃ ca,ca=(cur.toList.take (ii*7)++(⟨oc,om⟩:CoM).cells++cur.toList.drop (ii*7+7)).toArray:=⟨_,rfl⟩;rw[<-hca]at hp1;have HP1:=aA hp1;have HCA:=aA hca;clear hp1 hca;go_wp2_with (first
      | (refine bD rfl 27 _ rfl ⟨w.heap.size+1,0,none⟩ (.agg YC) rfl (LDC.out _ (HSP.out _ HV.out.t.s)) ?_)
      | (refine aCt rfl 27 _ _ rfl g (ii*7) YC rfl rfl 27 cur (⟨oc,om⟩:CoM).cells 7 HYL.out HYSS.out ca HCA.out HR6.out.b lq (by have:=HCS.out;omega) HYOO.out ?_))
     go_meet;exact⟨L.set ii ⟨oc,om⟩,n,rfl,aB,aA (HV.out.next hgg HP1.out (by rw[List.length_set,HLN.out]) (fun x hx=>HSUB.out _ x hx (fun z hz=>List.mem_or_eq_of_mem_set hz)))⟩
    ·go_upto_region 16 with fail
     obtain⟨j2,hj2⟩:∃ j2,j2=i1 % n:=⟨_,rfl⟩;have hjl:j2<n:=by rw[hj2];exact Nat.mod_lt _ aB
     have hjm:(i1:Int).tmod (n:Int)=(j2:Int):=by rw[hj2];rfl
     have hje:(i1:Int) % (n:Int)=(j2:Int):=by rw[hj2];rfl
     have hjk:(j2:Int)<(n:Int):=aB;obtain⟨xi,hxi⟩:∃ xi,L[ii]? = some xi:=⟨_,List.getElem?_eq_getElem aBw⟩;obtain⟨xj,hxj⟩:∃ xj,L[j2]? = some xj:=⟨_,List.getElem?_eq_getElem aBw⟩;obtain⟨Yi,hYi⟩:∃ Yi,Yi=dS xi.c xi.m:=⟨_,rfl⟩;obtain⟨Yjzz,hYj⟩:∃ Yjzz,Yjzz=dS xj.c xj.m:=⟨_,rfl⟩;have hli:∀ W,lS W g cap L cur->(loadVar 27 ⟨g,ii*7,none⟩).run prog W=.ok (.agg Yi) W:=by rw[hYi];exact fun W h=>h.load hxi
     have hlj:∀ W,lS W g cap L cur->(loadVar 27 ⟨g,j2*7,none⟩).run prog W=.ok (.agg Yjzz) W:=by rw[hYj];exact fun W h=>h.load hxj
     have HLI:=aA hli;have HLJ:=aA hlj;have HYI:=aA (show Yi.toList=xi.cells/\Yi.size=7/\Yi.all (·.oneCell')=true by rw[hYi];exact⟨rfl,rfl,lu _ _⟩);have HYJ:=aA (show Yjzz.toList=xj.cells/\Yjzz.size=7/\Yjzz.all (·.oneCell')=true by rw[hYj];exact⟨rfl,rfl,lu _ _⟩);have HXI:=aA (List.mem_of_getElem? hxi);have HXJ:=aA (List.mem_of_getElem? hxj);clear hj2 hxi hxj hYi hYj hli hlj;obtain⟨ca,hca⟩:∃ ca,ca=(cur.toList.take (ii*7)++xj.cells++cur.toList.drop (ii*7+7)).toArray:=⟨_,rfl⟩;obtain⟨cb,hcb⟩:∃ cb,cb=(ca.toList.take (j2*7)++xi.cells++ca.toList.drop (j2*7+7)).toArray:=⟨_,rfl⟩;have HCA:=aA hca;have HCB:=aA hcb;clear hca hcb;have hp:∀ W,lS W g cap L cur->lS (W.setRow g ca) g cap (L.set ii xj) ca:=fun W h=>by
      have:=h.put (i:=ii) xj (by rw[HLN.out];omega);rw[<-HCA.out]at this;exact this
     have hq:∀ W,lS W g cap (L.set ii xj) ca->lS (W.setRow g cb) g cap ((L.set ii xj).set j2 xi) cb:=fun W h=>by
      have:=h.put (i:=j2) xi (by rw[List.length_set,HLN.out];omega);rw[<-HCB.out]at this;exact this
     have HP:=aA hp;have HQP:=aA hq;clear hp hq;refine aFw 23 aG aG aG (fun i=>[.slice (some ⟨g,0,none⟩) n cap,.int .i64 (ii:Int),.slice (some ⟨g,0,none⟩) n cap,.int .i64 (ii:Int),.int .i64 (i1:Int),.slice (some ⟨g,0,none⟩) n cap,.int .i64 (n:Int),.int .i64 (j2:Int),.slice (some ⟨g,0,none⟩) n cap,.int .i64 (ii:Int),.int .i64 (i1:Int),.slice (some ⟨g,0,none⟩) n cap,.int .i64 (n:Int),.int .i64 (j2:Int),.pointer (some ⟨g,j2*7,none⟩),.agg Yjzz,.slice (some ⟨g,0,none⟩) n cap,.int .i64 (ii:Int),.pointer (some ⟨g,ii*7,none⟩),.agg Yi,.pointer (some ⟨g,ii*7,none⟩),undef,.pointer (some ⟨g,j2*7,none⟩)].getD i undef) (fun L' W=>(L' 21=false->NwV w KA YC X1 X2 g1 g2 g cap n L W/\lS W g cap L cur)/\(L' 21=true->∃ W0,(NwV w KA YC X1 X2 g1 g2 g cap n L W0/\lS W0 g cap L cur)/\W=W0.setRow g ca)) ⟨fun _=>⟨HV.out.keep (Below.drew (Below.refl _ _)),HR6.out.keep (Below.drew (Below.refl _ _))⟩,fun h=>by cases h⟩ ?_ ?_
     ·simp only[aZ,kM,Act.put,ag,bV];dsimp only[aCg];refine⟨fun Z W hC h0 hA hJ=>?_,fun Z W hC h0 hA hJ=>?_,fun Z W hC h0 hA hJ=>?_,fun Z W hC h0 hA hJ=>?_,fun Z W hC h0 hA hJ=>?_,fun Z W hC h0 hA hJ=>?_,fun Z W hC h0 hA hJ=>?_,fun Z W hC h0 hA hJ=>?_,fun Z W hC h0 hA hJ=>?_,fun Z W hC h0 hA hJ=>?_,fun Z W hC h0 hA hJ=>?_,fun Z W hC h0 hA hJ=>?_,fun Z W hC h0 hA hJ=>?_,fun Z W hC h0 hA hJ=>?_,fun Z W hC h0 hA hJ=>?_,fun Z W hC h0 hA hJ=>?_,fun Z W hC h0 hA hJ=>?_,fun Z W hC h0 hA hJ=>?_,fun Z W hC h0 hA hJ=>?_,fun Z W hC h0 hA hJ=>?_,fun Z W hC h0 hA hJ=>?_,fun Z W hC h0 hA hJ=>?_,fun Z W hC h0 hA hJ=>?_,trivial⟩
      ·exact FM
      ·exact FM
      ·exact FM
      ·exact FM
      ·exact FM
      ·exact FM
      ·exact FM
      ·exact FM
      ·exact FM
      ·exact FM
      ·exact FM
      ·exact FM
      ·exact FM
      ·exact FM
      ·exact FM
      ·have h21:Z 21=false:=by
        cases h:Z 21 with
        | false=>rfl
        | true =>
         have:=OT hC 1 21 15 _ aG rfl (fun e he hb=>hC 21 _ h rfl e he hb);rw[h0]at this;cases this
       have hS:=hJ.1 h21;have e1:=HLJ.out W hS.2;clear hC hA h0 h21;go_wp2_with (refine bD rfl 27 _ rfl ⟨g,j2*7,none⟩ (.agg Yjzz) rfl e1 ?_);exact⟨rfl,rfl,fun h=>hJ.1 nD,fun h=>hJ.2 nD⟩
      ·exact FM
      ·exact FM
      ·exact FM
      ·have h21:Z 21=false:=by
        cases h:Z 21 with
        | false=>rfl
        | true =>
         have:=OT hC 1 21 19 _ aG rfl (fun e he hb=>hC 21 _ h rfl e he hb);rw[h0]at this;cases this
       have hS:=hJ.1 h21;have e1:=HLI.out W hS.2;clear hC hA h0 h21;go_wp2_with (refine bD rfl 27 _ rfl ⟨g,ii*7,none⟩ (.agg Yi) rfl e1 ?_);exact⟨rfl,rfl,fun h=>hJ.1 nD,fun h=>hJ.2 nD⟩
      ·exact FM
      ·have hS:=hJ.1 h0;clear hC hA h0;go_wp2_with (refine aCt rfl 27 _ _ rfl g (ii*7) Yjzz rfl rfl 27 cur xj.cells 7 HYJ.out.1 HYJ.out.2.1 ca HCA.out hS.2.b lq (by have:=HCS.out;omega) HYJ.out.2.2 ?_);exact⟨rfl,rfl,W,hS,rfl⟩
      ·exact FM
     intro wz hJ;obtain⟨W0,hS,rfl⟩:=hJ.2 rfl;simp only[aZ,kM,Act.put,ag,bV];have HP1:=aA (HP.out _ hS.2);have HP2:=aA (HQP.out _ HP1.out);clear hJ;go_wp2_with (refine aCt rfl 27 _ _ rfl g (j2*7) Yi rfl rfl 27 ca xi.cells 7 HYI.out.1 HYI.out.2.1 cb HCB.out HP1.out.b lq (by rw[HP1.out.s];omega) HYI.out.2.2 ?_);go_meet;exact⟨(L.set ii xj).set j2 xi,n,rfl,aB,aA ((hS.1.next hgg HP1.out (by rw[List.length_set,HLN.out]) (fun x hx=>.inl ((List.mem_or_eq_of_mem_set hx).elim (fun h=>h) (fun h=>by rw[h];exact HXJ.out)))).next hgg HP2.out (by rw[List.length_set,List.length_set,HLN.out]) (fun x hx=>(List.mem_or_eq_of_mem_set hx).elim .inl (fun h=>.inr (by rw[h];exact⟨HOK.out _ HXI.out,fun W hb=>(HA.out.each _ HXI.out).keep hb⟩))))⟩
   case rest =>
    obtain⟨M,mn,rfl,hmn,HW⟩:=hcut;clear HV HR6 HCS HSUB HI HI1 HYL HYSS HYOO HYCO HROW;have hS:=HSP.out _ HW.out.t.s;by_cases hm0:mn=0
    ·have hz1:(mn:Int)=0:=aB;exact aDw
    have hz1:¬ (mn:Int)=0:=aB;have hm1:1<=mn:=aB;obtain⟨fr,hfr⟩:∃ fr,fr=k.fr:=⟨_,rfl⟩;have kc:wc.cell? ⟨w.heap.size,3,none⟩=some (.int .i64 fr):=HW.out.t.s.k.cell (k:=3) (by rw[HKA.out,hfr];rfl);have HFR:=aA hfr;clear hfr hS;go_upto_region 24 with (refine wpList_store_row rfl 57 _ _ rfl wc.heap.size #[.int .i64 fr,.int .i64 fr] rfl rfl _ #[.int .i64 0,.int .i64 0] (heap_alloc_new wc _) WA rfl (aKp _ _) ?_)
    (try dsimp only[Act.put]);generalize hwx:World.setRow _ _ _=wp;have hP:aQ wp wc.heap.size 57 #[.int .i64 fr,.int .i64 fr]:=by rw[<-hwx];exact setRow_heap _ _ _ _ _ _ (heap_alloc_new wc _)
    have hbx:aF wc wp:=uI;have HW3:=aA (HW.out.keep hbx);generalize hgp:wc.heap.size=gpzz at *;clear hwx hbx hgp HW kc;obtain⟨sa,hsa⟩:∃ sa,sa=y1.t.sl:=⟨_,rfl⟩;obtain⟨sb,hsb⟩:∃ sb,sb=y2.t.sl:=⟨_,rfl⟩;have hao:dm sa:=by rw[hsa];exact HM1.out.l
    have hbo:dm sb:=by rw[hsb];exact HM2.out.l
    obtain⟨SA,hSA⟩:∃ SA,SA=(b8 sa).toArray:=⟨_,rfl⟩;obtain⟨SB,hSB⟩:∃ SB,SB=(b8 sb).toArray:=⟨_,rfl⟩;have hla:(loadVar 30 ⟨g1,4,none⟩).run prog wp=.ok (.agg SA) wp:=by rw[hSA,hsa];exact HM1.out.sl _ _ HW3.out.t.a
    have hlb:(loadVar 30 ⟨g2,4,none⟩).run prog wp=.ok (.agg SB) wp:=by rw[hSB,hsb];exact HM2.out.sl _ _ HW3.out.t.b
    obtain⟨SSzz,hSS⟩:∃ SSzz,SSzz=(b8 sa++b8 sb).toArray:=⟨_,rfl⟩;have hbs:(Instr.buildSlice 67 2 #[(0,.agg SA),(1,.agg SB)]).run prog wp=.ok (.slice (some ⟨wp.heap.size,0,none⟩) 2 2) (wp.alloc (.cells SSzz 30)):=by rw[hSA,hSB,hSS];exact aKj sa sb hao hbo wp
    have HLA:=aA hla;have HLB:=aA hlb;have HBS:=aA hbs;have HSS:=aA hSS;have HAO:=aA hao;have HBO:=aA hbo;have HSA2:=aA hsa;clear hla hlb hbs hSS hao hbo hsa hsb hSA hSB;go_upto_block 3 with (first
     | (refine bD rfl 30 _ rfl ⟨g1,4,none⟩ (.agg SA) rfl HLA.out ?_)
     | (refine bD rfl 30 _ rfl ⟨g2,4,none⟩ (.agg SB) rfl HLB.out ?_)
     | (refine Za rfl 67 2 _ rfl #[(0,.agg SA),(1,.agg SB)] aG _ _ HBS.out ?_))
    have HW4:=aA (HW3.out.keep (fJ wp (.cells SSzz 30)));have HP4:=aA (hP.keep (fJ wp (.cells SSzz 30)));have HL4:=aA (heap_alloc_new wp (.cells SSzz 30));clear HW3 hP HLA HLB HBS;generalize hwy:World.alloc wp _=wy2 at *;generalize hgl:wp.heap.size=gl at *;clear hwy hgl;obtain⟨U,hU⟩:∃ U:World->Prop,U=fun W=>(NwV w KA YC X1 X2 g1 g2 g cap mn M W/\aQ W gpzz 57 #[.int .i64 fr,.int .i64 fr])/\aQ W gl 30 SSzz:=⟨_,rfl⟩
    have huk:∀ W W',U W->aF W W'->U W':=by rw[hU];exact fun _ _ h hb=>⟨⟨h.1.1.keep hb,h.1.2.keep hb⟩,h.2.keep hb⟩
    have huv:∀ W,U W->NwV w KA YC X1 X2 g1 g2 g cap mn M W:=by rw[hU];exact fun _ h=>h.1.1
    have hup:∀ W,U W->(loadVar 57 ⟨gpzz,0,none⟩).run prog W=.ok (.agg #[.int .i64 fr,.int .i64 fr]) W:=by rw[hU];exact fun _ h=>h.1.2.period rfl
    have hul:∀ W,U W->aQ W gl 30 SSzz:=by rw[hU];exact fun _ h=>h.2
    have hu4:U wy2:=by rw[hU];exact⟨⟨HW4.out,HP4.out⟩,HL4.out⟩
    have HUK:=aA huk;have HUV:=aA huv;have HUP:=aA hup;have HUL:=aA hul;have HU:=aA hu4;clear hU huk huv hup hul hu4 HW4 HP4 HL4;go_wp2;go_loopw [160] (fun iv wr=>∃ i:Nat,i<=2/\iv=.int .i64 i/\Hid (U wr)) (fun iv _=>2-(intOf iv).toNat)
    case atStart=>exact⟨0,aB,rfl,HU⟩
    case round =>
     clear HU;obtain⟨i,hi,rfl,HU⟩:=hrel;by_cases hlt:i<2
     ·have hk0:(0:Int)<=(i:Int):=aB;have hk1:(i:Int)<2:=aB;obtain⟨sq,hsq⟩:∃ sq,sq=(if i=0 then sa else sb):=⟨_,rfl⟩;have hso:dm sq:=by rw[hsq];split;exact HAO.out;exact HBO.out
      obtain⟨SV,hSV⟩:∃ SV,SV=(b8 sq).toArray:=⟨_,rfl⟩;have hls:(loadVar 30 ⟨gl,i*16,none⟩).run prog wr=.ok (.agg SV) wr:=by rw[hSV,hsq];exact aKk HAO.out HBO.out (by rw[<-HSS.out];exact HUL.out _ HU.out) i hlt
      have HLS:=aA hls;have HSO:=aA hso;have HSV:=aA hSV;have HSVS:=aA (show SV.size=16 by rw[hSV,List.size_toArray,dU,hso.len]);have HSVO:=aA (show SV.all (·.oneCell')=true by rw[hSV];exact Array.all_eq_true_iff_forall_mem.2 (fun v hv=>nC _ v (by simpa using hv)));have hbk:=(HUV.out _ HU.out).t.s.b;clear hls hso hSV hsq;go_upto_region 27 with (first
       | (refine bD rfl 30 _ rfl ⟨gl,i*16,none⟩ (.agg SV) rfl HLS.out ?_)
       | (refine wpList_store_row rfl 30 _ _ rfl wr.heap.size SV rfl rfl _ (#[.int .u8 0,.int .u8 0,.int .u8 0,.int .u8 0,.int .u8 0,.int .u8 0,.int .u8 0,.int .u8 0,.int .u8 0,.int .u8 0,.int .u8 0,.int .u8 0,.int .u8 0,.int .u8 0,.int .u8 0,.int .u8 0]:Array Value) (heap_alloc_new wr _) (by rw[HSVS.out];exact lh) (by rw[HSVS.out];rfl) HSVO.out ?_))
      (try dsimp only[Act.put]);generalize hwx:World.setRow _ _ _=w4;have hQ:aQ w4 wr.heap.size 30 SV:=aGd;have hb4:aF wr w4:=uI;have hu4:=HUK.out _ _ HU.out hb4;obtain⟨TYzz,hTY⟩:∃ TYzz,TYzz=y1.cells.toArray:=⟨_,rfl⟩;have hlt4:(loadVar 32 ⟨g1,0,none⟩).run prog w4=.ok (.agg TYzz) w4:=by rw[hTY];exact HM1.out.t _ _ (HUV.out _ hu4).t.a
      have HTYI:=aA (show (prog.info? 32).map (·.size)=some TYzz.size by rw[hTY,HM1.out.n];exact lC);have HTYS:=aA (show (bf:Array Value).size=TYzz.size by rw[hTY,HM1.out.n];rfl);have HTYO:=aA (show TYzz.all (·.oneCell')=true by rw[hTY];exact HM1.out.u);have HLT4:=aA hlt4;have HTY:=aA hTY;have HQ:=aA hQ;have HU4:=aA hu4;have hq4:wr.heap.size<w4.heap.size:=vV HQ.out;obtain⟨gs,hgs⟩:∃ gs,gs=wr.heap.size:=⟨_,rfl⟩;rw[<-hgs]at HQ hq4;have HB4:=aA (show Below gs wr w4 by rw[hgs];exact hb4);have HGS:=aA hgs;simp only[<-hgs];clear hwx hQ hb4 hu4 hlt4 hTY hgs HLS;go_upto_region 28 with (first
       | (refine bD rfl 32 _ rfl ⟨g1,0,none⟩ (.agg TYzz) rfl HLT4.out ?_)
       | (refine wpList_store_row rfl 32 _ _ rfl w4.heap.size TYzz rfl rfl _ bf (heap_alloc_new w4 _) HTYI.out HTYS.out HTYO.out ?_))
      (try dsimp only[Act.put]);generalize hwx:World.setRow _ _ _=w5;have hB:aQ w5 w4.heap.size 32 TYzz:=by rw[<-hwx];exact setRow_heap _ _ _ _ _ _ (heap_alloc_new w4 _)
      have hb5:aF w4 w5:=uI;have HU5:=aA (HUK.out _ _ HU4.out hb5);have HQ5:=aA (HQ.out.keep hb5);obtain⟨gb,hgb⟩:∃ gb,gb=w4.heap.size:=⟨_,rfl⟩;have HB45:=aA (show Below gb w4 w5 by rw[hgb];exact hb5);rw[<-hgb]at hB hq4;have HBT5:=aA hB;simp only[<-hgb];clear hwx hb5 hB HLT4 hgb;obtain⟨BT,hBT⟩:∃ BT,BT=(RF k id g cap M sq).cells.toArray:=⟨_,rfl⟩;have hzz:∀ W,aF w5 W->aQ W gb 32 y1.cells.toArray:=fun W hb=>by
       have h:=HBT5.out.keep hb;rw[HTY.out]at h;exact h
      have htt:=HTF.out (by trivial) n;have hspl:=aKs k id g cap mn M sq y1 (by rw[ht1,htt];rfl) (by rw[ht1,htt];rfl) (by rw[ht1,htt];rfl) HM1.out.l.len (HUV.out _ HU5.out).n;have HBTE:=aA (show BT=_ by rw[hBT,<-hspl]);have hsz:(y1.cells.set 3 (.slice (some ⟨g,0,none⟩) mn cap)).toArray.size=20:=by rw[List.size_toArray,List.length_set,<-List.size_toArray];exact HM1.out.n
      have HZZ:=aA hzz;have HSZ:=aA hsz;have HSVL:=aA (show SV.toList=b8 sq by rw[HSV.out]);have HBT:=aA hBT;have hg5:gb<w5.heap.size:=vV HBT5.out;have hls:∀ W,aQ W gs 30 SV->(loadVar 30 ⟨gs,0,none⟩).run prog W=.ok (.agg SV) W:=fun W h=>run_loadVar_row (P:=prog) W gs _ 30 SV _ _ h underlying30 rfl (by rw[HSVS.out];exact lh)
      have HLQ:=aA hls;clear hzz htt hspl hsz hls hBT;refine aFw 5 aG aG aG (fun i=>[.slice (some ⟨g,0,none⟩) mn cap,.agg SV,.pointer (some ⟨gb,3,none⟩),undef,.pointer (some ⟨gb,4,none⟩)].getD i undef) (fun Z W=>(Z 3=false->aF w5 W)/\(Z 3=true->∃ W0,aF w5 W0/\W=W0.setCell ⟨gb,3,none⟩ (.slice (some ⟨g,0,none⟩) mn cap))) ⟨fun _=>Below.drew (Below.refl _ _),fun h=>by cases h⟩ ?_ ?_
      ·simp only[aZ,kM,Act.put,ag,bV];dsimp only[aCg];refine⟨fun Z W hC h0 hA hJ=>?_,fun Z W hC h0 hA hJ=>?_,fun Z W hC h0 hA hJ=>?_,fun Z W hC h0 hA hJ=>?_,fun Z W hC h0 hA hJ=>?_,trivial⟩
       ·exact FM
       ·clear hC hA h0;have hQw:aQ W gs 30 SV:=by
         cases h:Z 3 with
         | false=>exact HQ5.out.keep (hJ.1 h)
         | true =>
          obtain⟨W0,hb0,rfl⟩:=hJ.2 h;exact (heap_setCell_other _ _ _ _ (show gs≠gb by omega)).trans (HQ5.out.keep hb0)
        have e1:=HLQ.out W hQw;go_wp2_with (refine bD rfl 30 _ rfl ⟨gs,0,none⟩ (.agg SV) rfl e1 ?_);exact⟨rfl,rfl,fun h=>hJ.1 nD,fun h=>hJ.2 nD⟩
       ·exact FM
       ·have hb:=hJ.1 h0;clear hC hA h0;have hbz:=HZZ.out W hb;have y3:W.cell? ⟨gb,3,none⟩=some (.slice y1.A y1.t.conds.length y1.c):=hbz.cell (k:=3) rfl;have f3:=frozen_of_row W gb 3 _ _ hbz;go_wp2;exact⟨rfl,rfl,W,hb,rfl⟩
       ·exact FM
      intro wz hJ;obtain⟨W0,hb0,rfl⟩:=hJ.2 rfl;simp only[aZ,kM,Act.put,ag,bV];have hbz:=HZZ.out W0 hb0;have hr9:(W0.setCell ⟨gb,3,none⟩ (.slice (some ⟨g,0,none⟩) mn cap)).heap[gb]? = some (.cells (y1.cells.set 3 (.slice (some ⟨g,0,none⟩) mn cap)).toArray 32 (0,0)):=by
       rw[heap_setCell_same W0 gb 3 y1.cells.toArray 32 _ hbz];simp
      have HR9:=aA hr9;have HB0:=aA hb0;clear hr9 hbz hb0 hJ;go_upto_region 29 with (refine aCt rfl 30 _ _ rfl gb 4 SV rfl rfl 32 (y1.cells.set 3 (.slice (some ⟨g,0,none⟩) mn cap)).toArray (b8 sq) 16 HSVL.out HSVS.out BT HBTE.out HR9.out lh (by rw[HSZ.out];omega) HSVO.out ?_)
      (try dsimp only[Act.put]);have hBT:=HBT.out;generalize hwx:World.setRow _ _ _=w6;have hBB:aQ w6 gb 32 BT:=by rw[<-hwx];exact setRow_heap _ _ _ _ _ _ HR9.out
      have hbl:Below gs W0 w6:=by rw[<-hwx];exact below_setRow ((Below.refl _ _).setCell (p:=⟨gb,3,none⟩) (show gs<=gb by omega) _) (show gs<=gb by omega) _
      have hb6:Below gs wr w6:=((HB4.out.trans (HB45.out.mono aB)).trans (HB0.out.mono aB)).trans hbl;have hu6:U w6:=HUK.out _ _ HU.out (by have h:=hb6;rw[HGS.out]at h;exact h);have hQ6:aQ w6 gs 30 SV:=by rw[<-hwx];exact (setRow_other _ _ _ _ (show gs≠gb by omega)).trans ((heap_setCell_other _ _ _ _ (show gs≠gb by omega)).trans (HQ5.out.keep HB0.out))
      have HU6:=aA hu6;have HQ6:=aA hQ6;have HBB:=aA hBB;clear hwx hBB hbl hb6 hu6 hQ6 hg5 HB0 HR9 HB4 HB45 HQ5 HBT5 HU5 HTYI HTYS HTYO HTY HU4 HQ hq4 HGS HU HZZ HSZ HSVL HBT HBTE HLQ;have hbts:BT.size=20:=by rw[hBT,aGa k id g cap mn M sq (HUV.out _ HU6.out).n];exact DR _ _ _ _ _ _ _ HSO.out.len
      obtain⟨rs,hrs⟩:∃ rs,rs=eU k (RF k id g cap M sq).t:=⟨_,rfl⟩;have hri:∀ W,U W->Calls prog 34 #[.agg KA,.agg BT] W (Ret W (.agg (b8 rs).toArray)):=by
       rw[HKA.out,hBT,hrs];exact fun W h=>aKm (HUV.out _ h) HVKE.out.symm aB hm1 hmn HSO.out (HK2.out.keep (HUV.out _ h).t.s.b)
      obtain⟨GE,hGE⟩:∃ GE:Int,GE=if rs=sq then 0 else 8:=⟨_,rfl⟩
      have hge:∀(W:World)(gr:Nat),U W->aQ W gr 23 KA->Calls prog 27 #[.slice (some ⟨gr,0,none⟩) 1 1,.agg BT,.agg #[.int .i64 fr,.int .i64 fr]] W (Ret W (.int .i64 GE)):=by
       rw[HKA.out,hBT,hGE,hrs,HFR.out];exact fun W gr h hg=>aKn (HUV.out _ h) HVKE.out.symm aB hm1 hmn HSO.out hg (HL.out.keep (HUV.out _ h).t.s.b)
      obtain⟨dq,hdq⟩:∃ dq,dq=decide (rs=sq):=⟨_,rfl⟩;have hse:∀ W,(Op.equalIn 10000 30 (.agg (b8 rs).toArray) (.agg SV)).run prog W=.ok dq W:=by
       rw[HSV.out,hdq];exact fun W=>DZ rs sq (by rw[hrs];exact Bz _ _) HSO.out W
      have hdg:(dq=true/\GE=0)\/(dq=false/\GE=8):=by
       rw[hdq,hGE];by_cases e:rs=sq
       ·exact .inl ⟨decide_eq_true e,if_pos e⟩
       ·exact .inr ⟨decide_eq_false e,if_neg e⟩
      have hbk:∀ W:World,(Instr.buildSlice 55 1 #[(0,.agg KA)]).run prog W=.ok (.slice (some ⟨W.heap.size,0,none⟩) 1 1) (W.alloc (.cells KA 23)):=by rw[HKA.out];exact fun W=>aKt k W
      obtain⟨RS,hRS⟩:∃ RS,RS=(b8 rs).toArray:=⟨_,rfl⟩;rw[<-hRS]at hri hse;have HRI:=aA hri;have HGE:=aA hge;have HSE:=aA hse;have HDG:=aA hdg;have HBK:=aA hbk;have HBTS:=aA hbts;clear hri hge hse hdg hbk hbts hRS hrs hGE hdq hBT;go_upto_region 30 with fail
      refine Ec 5 aG aG aG (fun i=>[.agg KA,.agg BT,.agg RS,.agg SV,.bool dq].getD i undef) (fun W=>U W/\aQ W gs 30 SV/\aQ W gb 32 BT) ⟨HUK.out _ _ HU6.out (Below.drew (Below.refl _ _)),HQ6.out.keep (Below.drew (Below.refl _ _)),HBB.out.keep (Below.drew (Below.refl _ _))⟩ (fun _ _ h hb=>⟨HUK.out _ _ h.1 hb,h.2.1.keep hb,h.2.2.keep hb⟩) ?_ ?_
      ·simp only[aZ,kM,Act.put,ag,bV];refine⟨fun W hS=>?_,fun W hS=>?_,fun W hS=>?_,fun W hS=>?_,fun W hS=>?_,trivial⟩;all_goals
        have e1:=(by have h:=HSVS.out;exact run_loadVar_row (P:=prog) W gs _ 30 SV _ _ hS.2.1 underlying30 rfl (by rw[h];exact lh):(loadVar 30 ⟨gs,0,none⟩).run prog W=.ok (.agg SV) W);have e2:=LDK.out _ (HSP.out _ (HUV.out _ hS.1).t.s);have e3:=dY hS.2.2 HBTS.out;have e4:=HSE.out W;go_wp2_with (first
         | (refine bD rfl 30 _ rfl ⟨gs,0,none⟩ (.agg SV) rfl e1 ?_)
         | (refine bD rfl 23 _ rfl ⟨w.heap.size,0,none⟩ (.agg KA) rfl e2 ?_)
         | (refine bD rfl 32 _ rfl ⟨gb,0,none⟩ (.agg BT) rfl e3 ?_)
         | (go_at_call 34;refine (HRI.out _ hS.1).mono ?_;rintro e w8 ⟨rfl,hb8⟩))
        exact⟨rfl,rfl,zU⟩
      intro wz hS;simp only[aZ,kM,Act.put,ag,bV];have hA2:=HUK.out _ _ hS.1 (fJ wz (.cells KA 23));have HA2:=aA hA2;have e3:=dY (hS.2.2.keep (fJ wz (.cells KA 23))) HBTS.out;have e2:=LDK.out _ (HSP.out _ (HUV.out _ hS.1).t.s);clear hA2;rcases HDG.out with ⟨rfl,rfl⟩ | ⟨rfl,rfl⟩
      all_goals
       go_wp2_with (first
        | (refine bD rfl 23 _ rfl ⟨w.heap.size,0,none⟩ (.agg KA) rfl e2 ?_)
        | (refine Za rfl 55 1 _ rfl #[(0,.agg KA)] aG _ _ (HBK.out _) ?_)
        | (refine bD rfl 32 _ rfl ⟨gb,0,none⟩ (.agg BT) rfl e3 ?_)
        | (refine bD rfl 57 _ rfl ⟨gpzz,0,none⟩ (.agg #[.int .i64 fr,.int .i64 fr]) rfl (HUP.out _ HA2.out) ?_)
        | (go_at_call 27;refine (HGE.out _ _ HA2.out (heap_alloc_new wz _)).mono ?_;rintro e w8 ⟨rfl,hb8⟩))
       have HU8:=aA (HUK.out _ _ HA2.out hb8);exact⟨⟨i+1,aB,bg,HU8⟩,dD⟩
     ·obtain rfl:i=2:=aB;have hS:=HSP.out _ (HUV.out _ HU.out).t.s;clear HU;exact aDw
end Go.Proofs.YtlkbkclnbppigaaGreatDoor
namespace Go.Proofs.YtlkbkclnbppigaaGreatDoor
open _root_.Go.Proofs.Tryz _root_.Go.Proofs.YtlkbkclnbppigaaGreatDoor.Tryz
open Go.RowKit Go.ChangeShapes Go.WideShapes
section
variable {H:Type} {enc:TypeId × Value->H} {P:Program}
def aCu(P:Program)(ts:List TypeId):Bool:=ts.all fun t=>P.readableRec t&&decide (t<P.types.size)
theorem aDx(hl:laidOutB P=true){W W':World}(hb:aF W W')(sp:Nat->Bool) :
  ∀{ts:List TypeId}{vs:List Value}{ds:List (DataW H)}{ps:List MemPlace},aCu P ts=true->DataW.TrodAll enc P W 0 (fun _=>true) true ts vs ds ps->(∀ x∈ps,x.block<W.heap.size)->(∀ x∈ps,sp x.block=true)->DataW.TrodAll enc P W' 0 sp true ts vs ds ps
 | [],vs,ds,ps,_,h,_,_=>by
  obtain⟨rfl,rfl,rfl⟩:=trodAll_nil h;exact trodAll_mk0
 | t :: ts,vs,ds,ps,hr,h,h1,h2=>by
  obtain⟨v,vs',d,ds',p,q,rfl,rfl,rfl,hv,hs⟩:=trodAll_cons h;simp only[aCu,List.all_cons,Bool.and_eq_true,decide_eq_true_eq]at hr;exact trodAll_cons_mk (WideElems.Trod_stays hl hr.1.1 hr.1.2 hv (fun x hx=>hb.same (h1 x gB)) (fun x hx=>h2 x gB))
   (aDx hl hb sp (by simpa[aCu] using hr.2) hs (fun x hx=>h1 x gB) (fun x hx=>h2 x gB))
theorem aGe{t:TypeId}{W:World}{b:Nat}{sp:Nat->Bool}{hd:Bool}(ht:P.underlying t=some .bool)(x:Bool):DataW.TrodAll enc P W b sp hd [t] [.bool x] [.lit (.bool x)] []:=trodAll_mk1 (shut_bool ht x)
theorem aKw{f:Func}{s:ChangeSpec}{apart fresh handsOn again:Bool}{W W':World}{args:Array Value}{ds gs:List (DataW H)}{before:List MemPlace}{t:TypeId}
  (hW:DataW.Whole enc P f.params.toList s.vars apart W args.toList ds gs before) (hvars:s.vars=[]) (hl:laidOutB P=true) (hrow:aCu P f.params.toList=true) (hres:f.resultTypes=#[t]) (ht:P.underlying t=some .bool)
  (hfn:s.fn H (ds++gs)={ results:=[.lit (.bool true)],args:=ds }) (hb:aF W W'):s.post enc P f apart fresh handsOn again W args (.bool true) W':=by
 have hlt:∀ x∈before,x.block<W.heap.size:=fun x hx=>hW.lt x hx
 have hW0:=hW;obtain⟨p,q,hA,hV,hp,hfz,hnd⟩:=hW;rw[hvars]at hV;obtain⟨rfl,rfl⟩:=trodVars_none hV;rw[List.append_nil]at hp;subst hp;have hr1:(Value.bool true).resultList f.resultTypes.size=[.bool true]:=by rw[hres];rfl
 have hr2:f.resultTypes.toList=[t]:=by rw[hres]
 have hvs:∀ sp,DataW.TrodVars enc P W' sp s.vars [] []:=fun sp=>by rw[hvars];rfl
 refine⟨ds,[],before,[],before,[],hW0,?_,?_,?_,?_,fun _=>⟨?_,.lit (.bool true) :: ds,[],before,?_,fun x hx _=>hx⟩⟩
 ·rw[hfn,hr1,hr2];exact aGe ht true
 ·rw[hfn];exact aDx hl hb _ hrow hA hlt (fun x hx=>by simpa using hlt x hx)
 ·rw[hfn];exact hvs _
 ·exact World.keptBut_mono (fun x hx=>⟨hx,.inr (.inl hx)⟩) (hb.frame (·∈before))
 ·exact ok_one hres rfl (okWide_bool_mk ht true)
 ·refine⟨before,[],?_,hvs _,aH,?_,hnd⟩
  ·rw[hr1,hr2];have:=trodAll_append (aDx hl hb (fun _=>true) hrow hA hlt (fun _ _=>rfl)) (aGe (enc:=enc) (P:=P) (W:=W') (b:=0) (sp:=fun _=>true) (hd:=true) ht true);simpa using this
  ·intro b off hx;rw[hb.frozen (hlt _ hx)];exact hfz b off hx
end
end Go.Proofs.YtlkbkclnbppigaaGreatDoor
namespace Go.Proofs.YtlkbkclnbppigaaGreatDoor
open _root_.Go.Proofs.Tryz _root_.Go.Proofs.YtlkbkclnbppigaaGreatDoor.Tryz
open Go.ChangeShapes Go.WideShapes Go.ChangeAt Go.RowKit Go.ChangeMaps
theorem own:ownKnob prog.godebug=none:=by kernel_rfl
theorem aKx:laidOutB prog=true:=by kernel_rfl
theorem aKy{W:World}(h:W.ShapedOpen prog):Env W :=
 Go.Proofs.cell_of_shapedOpen_int (zero:=#[.int .i64 0]) (t:=3) h (of_decide_eq_true aG) aG rfl aG aG underlying3
def aBq(k:IntKind)(l:List Nat):Obj->Obj
 | .cells _ t frozen=>.cells (l.map fun (n:Nat)=>Value.int k (n:Int)).toArray t frozen
 | o=>o
def aKz:List Nat:=[0,1,28,2,29,14,24,3,30,22,20,15,25,17,4,8,31,27,13,23,21,19,16,7,26,12,18,6,11,5,10,9]
def aLa:List Nat:=[0,1,56,2,57,49,28,3,61,58,42,50,38,29,17,4,62,47,59,36,45,43,51,22,53,39,33,30,24,18,12,5,63,55,48,27,60,41,37,16,46,35,44,21,52,32,23,11,54,26,40,15,34,20,31,10,25,14,19,9,13,8,7,6]
def aLb:List Nat:=[1,10,100,1000,10000,100000,1000000,10000000,100000000,1000000000,10000000000,100000000000,1000000000000,10000000000000,100000000000000,1000000000000000,10000000000000000,100000000000000000,1000000000000000000,10000000000000000000]
noncomputable def aCv (os:Os):World :=
 { World.holding prog os ⟨#[],#[],[]⟩ with heap:=(((((World.holding prog os ⟨#[],#[],[]⟩).heap.modify 8 (aBq .u8 aKz)).modify 9 (aBq .u8 aLa)).modify 3 (aBq .u64 aLb)).modify 7 (aBq .u8 ([128,191,160,191,128,159,144,191,128,143]++List.replicate 22 0))).modify 6 (aBq .u8 Go.Pinned.utf8FirstZ) }
theorem aLc:(Rows.laid_internal_strconv_uint64pow10:DataW Unit)=Lib.tabData .u64 Lib.pow10Tab:=by kernel_rfl
theorem aLd{W:World}{d1 d2:DataW Unit}{n1 n2:String}{rest:List (String × DataW Unit)}(h:laidMet prog ((n1,d1) :: (n2,d2) :: ("internal/strconv.uint64pow10", Rows.laid_internal_strconv_uint64pow10) :: rest) W):Tab W:=by
 have h2:=laidMet.tail (laidMet.tail h);rw[aLc]at h2;exact Lib.tabIs_of_head (g:=3) aG aG underlying314 underlying150 aG aG h2
theorem aGf : "*" ++ "errors.errorString" = "*errors.errorString" := by decide
theorem aGg(u:TypeId)(h:prog.typeName? 3 u=some "*errors.errorString"):u=339 :=
 typeName_ptr_named (nm := "errors.errorString") (by rw[aGf];kernel_rfl) aG aK u (by rw[aGf];exact h)
def aGh(n:Nat):Obj->Obj
 | .cells _ t frozen=>.cells #[.iface 339 (.pointer (some ⟨n,0,none⟩))] t frozen
 | o=>o
noncomputable def aDy (os:Os):World :=
 { aCv os with heap:=((((((aCv os).heap.modify 0 (aBq .u32 Sha.ks)).modify 1 (aBq .u32 Sha.ks)).modify 5 (aGh (aCv os).heap.size)).modify 4 (aGh ((aCv os).heap.size+1))).push (.cells #[.string (⟨#[118,97,108,117,101,32,111,117,116,32,111,102,32,114,97,110,103,101]⟩:aC)] 341)).push (.cells #[.string (⟨#[105,110,118,97,108,105,100,32,115,121,110,116,97,120]⟩:aC)] 341) }
def ksI:List Int:=Sha.ks.map fun n:Nat=>(n:Int)
theorem aLe:(Rows.laid_weirgate_hash_constants:DataW Unit)=Lib.tabData .u32 ksI:=by kernel_rfl
theorem aLf{W:World}(h:Lib.TabIs prog W "weirgate/hash.constants" .u32 ksI):Ks W:=by
 unfold Lib.TabIs World.var? at h;rw[show prog.globalNamed "weirgate/hash.constants" = some 0 by kernel_rfl]at h;exact aGi
theorem aLg{W:World}{rest:List (String × DataW Unit)}(h5:laidMet prog (("strconv.ErrRange", Rows.laid_strconv_ErrRange) :: ("strconv.ErrSyntax", Rows.laid_strconv_ErrSyntax) :: ("weirgate/hash.constants", Rows.laid_weirgate_hash_constants) :: rest) W):jP W/\5<W.heap.size/\Ks W:=by
 have h6:=laidMet.tail h5;have h7:=laidMet.tail h6;obtain⟨a1,s1,v1,_,_,_⟩:=laid_sentinel (g:=5) (ti:=177) (tp:=339) (te:=341) (ts:=9) h5 aG aG underlying177 aGg underlying339 underlying341 rfl rfl underlying9 aG aG;obtain⟨a2,s2,v2,_,_,_⟩:=laid_sentinel (g:=4) (ti:=177) (tp:=339) (te:=341) (ts:=9) h6 aG aG underlying177 aGg underlying339 underlying341 rfl rfl underlying9 aG aG;have c1:=World.var?_cell (g:=5) aG v1 0;have c2:=World.var?_cell (g:=4) aG v2 0;rw[aLe]at h7;have hk:=aLf (Lib.tabIs_of_head (g:=0) aG aG underlying265 underlying147 aG aG h7);refine⟨⟨⟨_,c2,.inr ⟨_,_,rfl⟩⟩,_,c1,.inr ⟨_,_,rfl⟩⟩,?_,hk⟩;have:=bu c1;have:=bu c2;omega
theorem aLh:(Rows.laid_weirgate_weirgateref02_constants:DataW Unit)=Lib.tabData .u32 ksI:=by kernel_rfl
theorem aLi{W:World}(h:Lib.TabIs prog W "weirgate/weirgateref02.constants" .u32 ksI):Ks2 W:=by
 unfold Lib.TabIs World.var? at h;rw[show prog.globalNamed "weirgate/weirgateref02.constants" = some 1 by kernel_rfl]at h;exact aGi
theorem aLj{W:World}{d1 d2 d4:DataW Unit}{n1 n2 n4:String}{rest:List (String × DataW Unit)}(hS:W.ShapedOpen prog)(h:laidMet prog ((n1,d1) :: (n2,d2) :: ("internal/strconv.uint64pow10", Rows.laid_internal_strconv_uint64pow10) :: (n4,d4) :: ("weirgate/weirgateref02.constants", Rows.laid_weirgate_weirgateref02_constants) :: ("strconv.ErrRange", Rows.laid_strconv_ErrRange) :: ("strconv.ErrSyntax", Rows.laid_strconv_ErrSyntax) :: ("weirgate/hash.constants", Rows.laid_weirgate_hash_constants) :: rest) W):gz W/\Ks2 W:=by
 have h4:=laidMet.tail (laidMet.tail (laidMet.tail (laidMet.tail h)));have h5:=aLg (laidMet.tail h4);rw[aLh]at h4;exact⟨⟨aKy hS,aLd h,h5.2.2,h5.1,h5.2.1⟩,aLi (Lib.tabIs_of_head (g:=1) aG aG underlying265 underlying147 aG aG h4)⟩
end Go.Proofs.YtlkbkclnbppigaaGreatDoor
