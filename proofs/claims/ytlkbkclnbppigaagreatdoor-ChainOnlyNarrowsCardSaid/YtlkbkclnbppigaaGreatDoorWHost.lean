/- Proofs that are used in many places. -/
import Derived.Test.YtlkbkclnbppigaaGreatDoorIHost

set_option maxHeartbeats 2000000
namespace Go.Proofs
set_option linter.unusedVariables false
variable {P:Prop}
theorem aKe(h:P:=by first | exact Blk.keep hX hb2 | exact Blk.keep hX2 hb2 | exact Blk.keep (World.alloc_heap_new _ _) hb2):P:=h
theorem aCi(h:P:=by simp only[World.size_alloc]at hD;omega):P:=h
theorem aDs(h:P:=by first | exact Blk.keep hY2 hb2 | exact Blk.keep (CW _ _ _ _).2.1 hb2):P:=h
theorem aDt(h:P:=by first | exact Blk.keep hZ2 hb2 | exact Blk.keep (CW _ _ _ _).2.2 hb2):P:=h
theorem aDr(h:P:=by first | exact Blk.keep hX2 hb2 | exact Blk.keep (CW _ _ _ _).1 hb2):P:=h
theorem aCa(h:P:=by simpa using hu.symm):P:=h
theorem aKp(h:P:=by rw[<-hw0];exact HS0.out):P:=h
theorem aGc(h:P:=by rw[hT.t];have:=h.id;exact Nat.le_trans this aK):P:=h
theorem aEp(h:P:=by rw[HR.out];simp):P:=h
theorem aKq(h:P:=by rw[<-hwx];exact setRow_heap _ _ _ _ _ _ (heap_alloc_new wr _)):P:=h
theorem aKr(h:P:=by rw[<-hwx];exact setRow_heap _ _ _ _ _ _ (heap_alloc_new w4 _)):P:=h
theorem aJf(h:P:=by rintro e w' ⟨hb,A,c,rfl,hR,_⟩;exact⟨hb,A,c,rfl,hR⟩):P:=h
theorem aDo(h:P:=by rw[UInt8.toNat_ofNat'];omega):P:=h
theorem aFv(h:P:=by have:=hgrow1.size;simp at this;omega):P:=h
theorem aEa(h:P:=by simp only[AL,hne,e1];rfl):P:=h
theorem aCz(h:P:=by have:=HLN.out;omega):P:=h
theorem aEz(h:P:=by rw[HV.out,hall,Bool.true_and]):P:=h
theorem aFt(h:P:=by have:=fE hown4 _ e.symm;omega):P:=h
theorem aEb(h:P:=by simpa[bne] using hne):P:=h
theorem aFb(h:P:=by rw[List.length_drop];omega):P:=h
theorem aCu(h:P:=by decide +kernel):P:=h
theorem aBr(h:P:=by trivial):P:=h
theorem aIv(h:P:=by
 rintro l k x W hx ⟨hr1,h2,h3,h4,hbw,hsz6⟩
 obtain⟨p,hp,rfl⟩:=aIs hx
 rw[aIn hp]at hr1
 have cA:=Us B nb cb ys p W (HB.out.keep hbw) aB
 have c2:=h2.cell
 have c3:=h3.cell;have f3:=h3.frozen
 have c4:=h4.cell;have f4:=h4.frozen
 clear hx hp
 cases ha:bG ys p
 ·rw[ha]at cA hr1
  have HA:=aA cA
  have HR:=aA hr1
  clear cA hr1 ha
  gi_wp2_with (refine⟨trivial,rfl,?_⟩;gi_at_call 89;refine (CallsIn.inRound l (callsIn_wide.2 HA.out)).mono ?_;rintro e w2 ⟨rfl,hb2⟩;have c3':=aW hb2 c3;have f3':=dV hb2 (bu c3) f3;have c4':=aW hb2 c4;have f4':=dV hb2 (bu c4) f4)
  have g3:=qy h3 hb2
  have g4:=qy h4 hb2
  refine⟨(((zH hb2).trans (KeepsOthers.setCell _ _ _)).trans (KeepsOthers.setCell _ _ _)).from _,rfl,p,aEp,kG (g3.set _) aH _,(kG g4 aH _).set _,?_,?_⟩
  ·exact ((hbw.trans (hb2.mono aB)).setCell (p:=⟨w.heap.size+1,0,none⟩) aH _).setCell (p:=⟨w.heap.size+1+1,0,none⟩) aP _
  ·have:=hb2.size;simp[World.setCell];omega
 ·rw[ha]at cA hr1
  have HA:=aA cA
  have HR:=aA hr1
  clear cA hr1 ha
  gi_wp2_with (refine⟨trivial,rfl,?_⟩;gi_at_call 89;refine (CallsIn.inRound l (callsIn_wide.2 HA.out)).mono ?_;rintro e w2 ⟨rfl,hb2⟩;have c3':=aW hb2 c3;have f3':=dV hb2 (bu c3) f3;have c4':=aW hb2 c4;have f4':=dV hb2 (bu c4) f4)
  exact⟨(zH hb2).from _,Below.keepsIn hb2 aB,aEp,qy h2 hb2,qy h3 hb2,qy h4 hb2,hbw.trans (hb2.mono aB),uh⟩):P:=h
theorem aIp(h:P:=by
 rintro l k x W hx ⟨hr1,h2,h3,h4,hbw,hsz6⟩
 obtain⟨p,hp,rfl⟩:=pG hx
 rw[aIn hp]at hr1
 have cA:=Ia B nb cb ys p W (HB.out.keep hbw) aB
 have c2:=h2.cell
 have c3:=h3.cell;have f3:=h3.frozen
 have c4:=h4.cell;have f4:=h4.frozen
 clear hx hp
 cases ha:bG ys p
 ·rw[ha]at cA hr1
  have HA:=aA cA
  have HR:=aA hr1
  clear cA hr1 ha
  gi_wp2_with (refine⟨trivial,rfl,?_⟩;gi_at_call 88;refine (CallsIn.inRound l (callsIn_wide.2 HA.out)).mono ?_;rintro e w2 ⟨rfl,hb2⟩;have c3':=aW hb2 c3;have f3':=dV hb2 (bu c3) f3;have c4':=aW hb2 c4;have f4':=dV hb2 (bu c4) f4)
  have g3:=qy h3 hb2
  have g4:=qy h4 hb2
  refine⟨(((zH hb2).trans (KeepsOthers.setCell _ _ _)).trans (KeepsOthers.setCell _ _ _)).from _,rfl,p,aEp,kG (g3.set _) aH _,(kG g4 aH _).set _,?_,?_⟩
  ·exact ((hbw.trans (hb2.mono aB)).setCell (p:=⟨w.heap.size+1,0,none⟩) aH _).setCell (p:=⟨w.heap.size+1+1,0,none⟩) aP _
  ·have:=hb2.size;simp[World.setCell];omega
 ·rw[ha]at cA hr1
  have HA:=aA cA
  have HR:=aA hr1
  clear cA hr1 ha
  gi_wp2_with (refine⟨trivial,rfl,?_⟩;gi_at_call 88;refine (CallsIn.inRound l (callsIn_wide.2 HA.out)).mono ?_;rintro e w2 ⟨rfl,hb2⟩;have c3':=aW hb2 c3;have f3':=dV hb2 (bu c3) f3;have c4':=aW hb2 c4;have f4':=dV hb2 (bu c4) f4)
  exact⟨(zH hb2).from _,Below.keepsIn hb2 aB,aEp,qy h2 hb2,qy h3 hb2,qy h4 hb2,hbw.trans (hb2.mono aB),uh⟩):P:=h
theorem aIq(h:P:=by
 have hk2:=((KeepsOthers.setCell W ⟨w.heap.size+1,0,none⟩ (.string ⟨#[]⟩)).trans (KeepsOthers.setCell _ ⟨w.heap.size+1+1,0,none⟩ (.bool false))).same D _ hK rfl
 have hD':w.heap.size+1+1+1<=D:=aCi
 obtain⟨W2,hW2⟩:∃ W2,W2=(W.setCell ⟨w.heap.size+1,0,none⟩ (.string ⟨#[]⟩)).setCell ⟨w.heap.size+1+1,0,none⟩ (.bool false):=⟨_,rfl⟩
 have x3:Boxed W2 (w.heap.size+1) 9 (.string ⟨#[]⟩):=hW2▸kG (h3.set _) aH _
 have x4:Boxed W2 (w.heap.size+1+1) 4 (.bool false):=hW2▸(kG h4 aH _).set _
 have hb2:aF w W2:=hW2▸(hbw.setCell (p:=⟨w.heap.size+1,0,none⟩) aH _).setCell (p:=⟨w.heap.size+1+1,0,none⟩) aP _
 rw[<-hW2]at hk2 ⊢
 clear hW2 h2 h3 h4 hbw c3 c4 f3 f4
 refine⟨aH,.inl ⟨_,_,rfl,run_takeDeferred hk2,?_⟩⟩
 have hne:∀(B:Nat)(t:TypeId)(v:Value),Boxed W2 B t v->B<D->(W2.putObj D (.deferred none)).cell? ⟨B,0,none⟩=some v:=fun B t v hv hlt=>Boxed.cell (t:=t) ((World.putObj_heap_other aB).trans hv)
 have y3:=hne _ _ _ x3 aB
 have y4:=hne _ _ _ x4 aB
 refine⟨.tuple #[.string ⟨#[]⟩,.bool false],aLb,?_,?_⟩
 ·rw[HV.out,HR.out];rfl
 ·exact hb2.grown (grownBy_putObj' W2 D _) uh (fun r e=>mZ)):P:=h
theorem aIw(h:P:=by
 have hk2:=((KeepsOthers.setCell W ⟨w.heap.size+1,0,none⟩ (.int .i64 0)).trans (KeepsOthers.setCell _ ⟨w.heap.size+1+1,0,none⟩ (.bool false))).same D _ hK rfl
 have hD':w.heap.size+1+1+1<=D:=aCi
 obtain⟨W2,hW2⟩:∃ W2,W2=(W.setCell ⟨w.heap.size+1,0,none⟩ (.int .i64 0)).setCell ⟨w.heap.size+1+1,0,none⟩ (.bool false):=⟨_,rfl⟩
 have x3:Boxed W2 (w.heap.size+1) 3 (.int .i64 0):=hW2▸kG (h3.set _) aH _
 have x4:Boxed W2 (w.heap.size+1+1) 4 (.bool false):=hW2▸(kG h4 aH _).set _
 have hb2:aF w W2:=hW2▸(hbw.setCell (p:=⟨w.heap.size+1,0,none⟩) aH _).setCell (p:=⟨w.heap.size+1+1,0,none⟩) aP _
 rw[<-hW2]at hk2 ⊢
 clear hW2 h2 h3 h4 hbw c3 c4 f3 f4
 refine⟨aH,.inl ⟨_,_,rfl,run_takeDeferred hk2,?_⟩⟩
 have hne:∀(B:Nat)(t:TypeId)(v:Value),Boxed W2 B t v->B<D->(W2.putObj D (.deferred none)).cell? ⟨B,0,none⟩=some v:=fun B t v hv hlt=>Boxed.cell (t:=t) ((World.putObj_heap_other aB).trans hv)
 have y3:=hne _ _ _ x3 aB
 have y4:=hne _ _ _ x4 aB
 refine⟨.tuple #[.int .i64 0,.bool false],aLc,?_,?_⟩
 ·rw[HV.out,HR.out];rfl
 ·exact hb2.grown (grownBy_putObj' W2 D _) uh (fun r e=>mZ)):P:=h
theorem aIx(h:P:=by
 refine⟨aH,.inl ⟨_,_,rfl,run_takeDeferred hK,?_⟩⟩
 have hne:∀(B:Nat)(t:TypeId)(v:Value),Boxed W B t v->B<D->(W.putObj D (.deferred none)).cell? ⟨B,0,none⟩=some v:=fun B t v hv hlt=>Boxed.cell (t:=t) ((World.putObj_heap_other aB).trans hv)
 have y3:=hne _ _ _ h3 aB
 have y4:=hne _ _ _ h4 aB
 refine⟨.tuple #[.int .i64 x,.bool true],aLc,?_,?_⟩
 ·rw[HV.out,HR.out];rfl
 ·exact hbw.grown (grownBy_putObj' W D _) yx (fun r e=>mZ)):P:=h
theorem aIr(h:P:=by
 refine⟨aH,.inl ⟨_,_,rfl,run_takeDeferred hK,?_⟩⟩
 have hne:∀(B:Nat)(t:TypeId)(v:Value),Boxed W B t v->B<D->(W.putObj D (.deferred none)).cell? ⟨B,0,none⟩=some v:=fun B t v hv hlt=>Boxed.cell (t:=t) ((World.putObj_heap_other aB).trans hv)
 have y3:=hne _ _ _ h3 aB
 have y4:=hne _ _ _ h4 aB
 refine⟨.tuple #[.string x,.bool true],aLb,?_,?_⟩
 ·rw[HV.out,HR.out];rfl
 ·exact hbw.grown (grownBy_putObj' W D _) yx (fun r e=>mZ)):P:=h
theorem aJj(h:P:=by
 obtain⟨p0,p1,p2,p3,p4,p5⟩:=(hZ2.put ⟨#[]⟩ ⟨#[]⟩ ⟨#[]⟩ 0 0 0).facts
 clear x0 x1 x2 x3 x4 x5 x6 y0 y1 y2 y3 y4 y5 y6 z0 z1 z2 z3 z4 z5 q0 q1 q2 q3 q4 q5
 exact bodyPost_ret (v:=.tuple #[.bool true,.agg #[.string ⟨#[]⟩,.string ⟨#[]⟩,.string ⟨#[]⟩,.int .i64 0,.int .i64 0,.int .i64 0],.int .i64 0]) aBy rfl ⟨rfl,V4 hbw aB _ _ _ _ _ _⟩):P:=h
theorem aFp(h:P:=by
 refine⟨rfl,hRd.mono ?_⟩
 rintro e W' (⟨rfl,hJ',hk'⟩ | ⟨rfl,hJx'⟩)
 ·gi_wp2
  exact⟨⟨k+1,bg,aB,hJ'⟩,dD⟩
 ·gi_wp2
  exact uw):P:=h
theorem aIk(h:P:=by
 refine⟨rfl,hRd.mono ?_⟩
 rintro e W' (⟨rfl,hJ',hk'⟩ | ⟨rfl,hJx'⟩)
 ·have HR2:=aA (aNd HR.out hk' HLT.out)
  clear hc1 HR
  gi_wp2
  exact⟨⟨k+1,bg,aB,HR2,hJ'⟩,dD⟩
 ·gi_wp2
  exact uw):P:=h
theorem aHa(h:P:=by
 rw[Ri]at hh hn
 have:=congrArg (fun s:aC=>s.data.toList) (hh.symm.trans hn)
 (try dsimp only at this)
 rw[da,db]at this
 injection this with e1 _
 exact absurd e1 aK):P:=h
theorem aFo(h:P:=by
 rw[List.map_map,List.getElem?_map,List.getElem?_range hkn]
 rfl):P:=h
theorem aIg(h:P:=by
 have e1:=congrArg UInt8.toNat e.1
 have e2:=congrArg UInt8.toNat e.2
 rw[UInt8.toNat_ofNat',UInt8.toNat_ofNat']at e1 e2
 omega):P:=h
theorem aJy(h:P:=by
 rw[h]at h2
 have:=congrArg ByteArray.size h2
 rw[ByteArray.size_extract]at this
 omega):P:=h
theorem aIh(h:P:=by
 unfold aBv
 rw[decide_eq_false he,decide_eq_false (show ¬ (b.fr<=a.fr/\a.till<=b.till) by omega)];rfl):P:=h
theorem aJi(h:P:=by
 have he:xs.isEmpty=false:=yJ
 rw[he]
 exact aNf A na ca B nb cb ys xs _ w hA hB h0 aB aB):P:=h
theorem aHq(h:P:=by
 have:=h1 x
 unfold bG at this
 rw[Bool.eq_iff_iff]at this
 simpa[hs] using this):P:=h
theorem aLa(h:P:=by
 injection h0 with h0
 subst h0
 exact⟨none,0,0,[],rfl,rfl,aI.nil_ _ _ _⟩):P:=h
theorem aHu(h:P:=by
 rw[List.all_eq_false]
 exact⟨x,List.mem_of_getElem? hx,by rw[hp];decide⟩):P:=h
theorem aKc(h:P:=by
 by_cases h:er=0
 ·subst h
  exact aLd
 ·have d1:(er==0)=false:=beq_eq_false_iff_ne.2 h
  rw[decide_eq_false h]
  exact aLd):P:=h
theorem aBy(h:P:=by simp only[results,results90];simp[go_sem,p0,p1,p2,p3,p4,p5]):P:=h
theorem aFx(h:P:=by simp[results,results186,go_sem,hz6,x0,x1,x2,x3,f0,f1,f2,f3]):P:=h
theorem aFu(h:P:=by simp[results,results130,go_sem,hz2,x0,x1,x2,f0,f1,f2]):P:=h
theorem aLb(h:P:=by simp[results,results154,go_sem,y3,y4]):P:=h
theorem aLc(h:P:=by simp[results,results157,go_sem,y3,y4]):P:=h
theorem aLe(h:P:=by simp[results,results145,go_sem,hz1,hz9,x0,x1,f0,f1]):P:=h
theorem aCy(h:P:=by
 go_enter func8,ntmps8
 go_upto_region 1 with fail
 generalize hw0:World.alloc _ _=w0
 have hS:S w0:=aKp
 clear hw0
 go_wp2_with (first | (first | (refine bD rfl 23 _ rfl ⟨w.heap.size,0,none⟩ (.agg KA) rfl (LDK.out _ hS) ?_) | (go_big_want;refine jE 23 _ rfl ⟨w.heap.size,0,none⟩ (.agg KA) rfl (LDK.out _ hS) ?_;simp only[Act.put,ag])) | (first | (refine bD rfl 59 _ rfl ⟨w.heap.size+1,0,none⟩ (.agg XA) rfl (LDA.out _ hS) ?_) | (go_big_want;refine jE 59 _ rfl ⟨w.heap.size+1,0,none⟩ (.agg XA) rfl (LDA.out _ hS) ?_;simp only[Act.put,ag])) | ((first | (go_at_call 31;refine (HVK.out _).mono ?_) | (go_at_call 26;refine (HFA.out _).mono ?_) | (go_at_call 39;refine (HVA.out _).mono ?_) | (go_at_call 11;refine (HSA.out _ hS).mono ?_));(rintro e w' ⟨rfl,hb'⟩;replace hS:=HSK.out _ _ hS hb';clear hb')))
 go_ret
 exact⟨rfl,HSB.out _ hS⟩):P:=h
theorem aBq(h:P:=by
 clear hV
 (go_enter func39,ntmps39;go_wp2_with (((first | (go_at_call 84;refine (C1.out _).mono ?_) | (go_at_call 50;refine (C2.out _).mono ?_) | (go_at_call 67;refine (C3.out _).mono ?_));rintro e w2 ⟨rfl,hb2⟩;(have hX2:Blk w2 w.heap.size 59 #[.string ad,.string cl,.string co,.int .i64 si,.int .i64 lo,.int .i64 hi] (0,0):=EU;have x0:=hX2.cell 0;have x1:=hX2.cell 1;have x2:=hX2.cell 2;have x3:=hX2.cell 3;have x4:=hX2.cell 4;have x5:=hX2.cell 5)));go_ret;exact⟨rfl,aJ⟩)):P:=h
theorem XX(h:P:=by
 (go_enter func32,ntmps32;go_wp2_with (go_at_call 66;refine (HVA.out _).mono ?_;rintro e w2 ⟨rfl,hb2⟩;(have hX2:aX w2 w.heap.size fr till pat A na ca B nb cb S ns cs us:=aKe;obtain⟨x0,x1,x2,x3,x4,x5,x6⟩:=hX2.facts));go_ret;exact⟨rfl,aJ⟩)):P:=h
theorem aCt(h:P:=by
 (go_enter func42,ntmps42;go_wp2_with (go_at_call 90;refine (C1.out _ aJ).mono ?_;rintro e w2 ⟨rfl,hb2⟩;(have hX2:aX w2 w.heap.size fa ta pa A na ca B nb cb S ns cs ua:=Blk.keep (vC _ _ _).1 hb2;have hY2:aX w2 (w.heap.size+1) fb tb pb A' na' ca' B' nb' cb' S' ns' cs' ub:=Blk.keep (vC _ _ _).2 hb2;obtain⟨x0,x1,x2,x3,x4,x5,x6⟩:=hX2.facts;obtain⟨y0,y1,y2,y3,y4,y5,y6⟩:=hY2.facts;have hzX:=Blk.lt hX2;have hzY:=Blk.lt hY2));go_ret2;exact⟨rfl,aJ⟩)):P:=h
theorem aJz(h:P:=by
 have HV2:=HV.out
 simp only[Bool.false_and,Bool.and_false,Bool.false_eq_true,if_false]at HV2
 go_wp2_with (first | (go_at_call 188;refine (HS.out _).mono ?_;rintro e w3 ⟨A,c,rfl,hown,hb3⟩;have hX3:JS w3 w.heap.size ⟨#[]⟩ none 0 0 none 0 0 0:=Blk.keep hXc hb3;obtain⟨pb,po,u,rfl,hu,g0⟩:=(aI.of_own hown).at_ (k:=0) aB;(obtain rfl:u=.string C:=aCa);clear hu;have gg:w3.cell? ⟨pb,po,none⟩=some (.string C):=g0;clear g0;have HR:=aA (aI.of_own hown);have hcap:=Bh hown;clear hown;have hm0:(0:Int)<(m:Int)+1:=aB;have hm1:(1:Int)<=(m:Int)+1:=aB;have hm2:(m:Int)+1<=(c:Int):=aB) | (go_at_call 50;refine (HN.out _).mono ?_;rintro e w4 ⟨rfl,hb4⟩;have hX4:JS w4 w.heap.size ⟨#[]⟩ none 0 0 none 0 0 0:=Blk.keep hX3 hb4;have gg4:=aW hb4 gg;obtain⟨x0,x1,x2,x3,f0,f1,f2,f3⟩:=hX4.facts;have hz4:w.heap.size<w4.heap.size:=Blk.lt hX4) | (go_at_call 242;refine (HPT.out _ _ _ (aEd ((HR.out.keep aJ)) _ (fun h=>(by simp[h])) hcap)).mono ?_;rintro e w5 hp5;obtain⟨hb5,PA,Pc,rfl,hPR,hPA⟩:=HPs.out _ _ _ hp5;clear hp5;have hX5:JS w5 w.heap.size ⟨#[]⟩ none 0 0 none 0 0 0:=Blk.keep hX4 hb5;have gg5:=aW hb5 gg4) | (go_at_call 243;refine (HQ.out _).mono ?_;rintro e w6 hq6;obtain⟨hb6,QA,Qc,rfl,hQR,hQA⟩:=HQs.out _ _ _ hq6;clear hq6;have hX6:JS w6 w.heap.size ⟨#[]⟩ none 0 0 none 0 0 0:=Blk.keep hX5 hb6;have gg6:=aW hb6 gg5;clear x0 x1 x2 x3 f0 f1 f2 f3;obtain⟨x0,x1,x2,x3,f0,f1,f2,f3⟩:=hX6.facts;have hz6:w.heap.size<w6.heap.size:=Blk.lt hX6))
 all_goals (rw[<-HV2];exact bodyPost_ret (v:=.agg #[.string ⟨#[]⟩,.slice none 0 0,.slice none 0 0,.int .i64 3]) aFx rfl (JU.err aJ))):P:=h
theorem aKa(h:P:=by
 clear HV1
 go_wp2_with (first | (go_at_call 188;refine (HS.out _).mono ?_;rintro e w3 ⟨A,c,rfl,hown,hb3⟩;have hX3:JS w3 w.heap.size ⟨#[]⟩ none 0 0 none 0 0 0:=Blk.keep hXc hb3;obtain⟨pb,po,u,rfl,hu,g0⟩:=(aI.of_own hown).at_ (k:=0) aB;(obtain rfl:u=.string C:=aCa);clear hu;have gg:w3.cell? ⟨pb,po,none⟩=some (.string C):=g0;clear g0;have HR:=aA (aI.of_own hown);have hcap:=Bh hown;clear hown;have hm0:(0:Int)<(m:Int)+1:=aB;have hm1:(1:Int)<=(m:Int)+1:=aB;have hm2:(m:Int)+1<=(c:Int):=aB) | (go_at_call 50;refine (HN.out _).mono ?_;rintro e w4 ⟨rfl,hb4⟩;have hX4:JS w4 w.heap.size ⟨#[]⟩ none 0 0 none 0 0 0:=Blk.keep hX3 hb4;have gg4:=aW hb4 gg;obtain⟨x0,x1,x2,x3,f0,f1,f2,f3⟩:=hX4.facts;have hz4:w.heap.size<w4.heap.size:=Blk.lt hX4) | (go_at_call 242;refine (HPT.out _ _ _ (aEd ((HR.out.keep aJ)) _ (fun h=>(by simp[h])) hcap)).mono ?_;rintro e w5 hp5;obtain⟨hb5,PA,Pc,rfl,hPR,hPA⟩:=HPs.out _ _ _ hp5;clear hp5;have hX5:JS w5 w.heap.size ⟨#[]⟩ none 0 0 none 0 0 0:=Blk.keep hX4 hb5;have gg5:=aW hb5 gg4) | (go_at_call 243;refine (HQ.out _).mono ?_;rintro e w6 hq6;obtain⟨hb6,QA,Qc,rfl,hQR,hQA⟩:=HQs.out _ _ _ hq6;clear hq6;have hX6:JS w6 w.heap.size ⟨#[]⟩ none 0 0 none 0 0 0:=Blk.keep hX5 hb6;have gg6:=aW hb6 gg5;clear x0 x1 x2 x3 f0 f1 f2 f3;obtain⟨x0,x1,x2,x3,f0,f1,f2,f3⟩:=hX6.facts;have hz6:w.heap.size<w6.heap.size:=Blk.lt hX6))
 all_goals (rw[<-HV2];exact bodyPost_ret (v:=.agg #[.string ⟨#[]⟩,.slice none 0 0,.slice none 0 0,.int .i64 2]) aFx rfl (JU.err aJ))):P:=h
theorem aJm(h:P:=by
 go_enter func130,ntmps130
 go_wp2_with (first | (go_at_call 188;refine (HS.out _).mono ?_;rintro e w1 ⟨A,c,rfl,hown,hb1⟩;have hX1:JA w1 w.heap.size ⟨#[]⟩ (.slice none 0 0) false:=Blk.keep (World.alloc_heap_new _ _) hb1;obtain⟨pb,po,u,rfl,hu,g0⟩:=(aI.of_own hown).at_ (k:=0) aB;(obtain rfl:u=.string l0:=aCa);clear hu;have gg:w1.cell? ⟨pb,po,none⟩=some (.string l0):=g0;clear g0;have hR1:=aI.of_own hown;clear hown;obtain⟨x0,x1,x2,f0,f1,f2⟩:=hX1.facts;have hz1:w.heap.size<w1.heap.size:=Blk.lt hX1) | (go_at_call 50;refine (HN.out _).mono ?_;rintro e w2 ⟨rfl,hb2⟩;have hX2:JA w2 w.heap.size ⟨#[]⟩ (.slice none 0 0) false:=Blk.keep hX1 hb2;have gg2:=aW hb2 gg;have hR2:=hR1.keep hb2;clear x0 x1 x2 f0 f1 f2;obtain⟨x0,x1,x2,f0,f1,f2⟩:=hX2.facts;have hz2:w.heap.size<w2.heap.size:=Blk.lt hX2))
 rw[<-HV.out,HNO.out]
 exact bodyPost_ret (v:=.tuple #[.agg #[.string ⟨#[]⟩,.slice none 0 0,.bool false],.bool false]) aFu rfl ⟨aJ,rfl⟩):P:=h
theorem aFw(h:P:=by
 clear hv h1
 go_enter func258,ntmps258
 go_wp2_with (go_at_call 50;refine (H1.out _).mono ?_;rintro e w1 ⟨rfl,hb1⟩;have hX1:aBl w1 w.heap.size c P np cp Q nq cq:=Blk.keep (World.alloc_heap_new _ _) hb1;have x1:w1.cell? ⟨w.heap.size,1,none⟩=some (.slice P np cp):=Blk.cell hX1 1;have x2:w1.cell? ⟨w.heap.size,2,none⟩=some (.slice Q nq cq):=Blk.cell hX1 2)
 go_ret
 exact⟨rfl,aJ⟩):P:=h
theorem aJn(h:P:=by
 go_wp2_with (go_at_call 189;refine (HP.out _).mono ?_;rintro e w4 ⟨rfl,hb4⟩;have hP4:JA w4 w.heap.size ⟨#[]⟩ (.slice none 0 0) false:=Blk.keep hP hb4;have hB4:JA w4 w2.heap.size l0 (.slice A' acc.length c') false:=Blk.keep hB hb4;have hown4:=fZ hown hb4;have hbw4:=aV hbw hb4;have hFr4:∀ j,j<w2.heap.size->w4.heap[j]? = w2.heap[j]?:=(fun j q1=>(hb4.block j aB).trans (hFr j q1));have hzr4:w2.heap.size+1<=w4.heap.size:=Nat.le_trans hzr hb4.size;have hcell4:=aW hb4 hcell;clear x0 x1 x2 f0 f1 f2 y0 y1 y2 g0 g1 g2;obtain⟨x0,x1,x2,f0,f1,f2⟩:=hP4.facts;obtain⟨y0,y1,y2,g0,g1,g2⟩:=hB4.facts)
 rw[<-HV.out,HV2.out,HNO.out]
 exact bodyPost_ret (v:=.tuple #[.agg #[.string ⟨#[]⟩,.slice none 0 0,.bool false],.bool false]) aFu rfl ⟨aJ,rfl⟩):P:=h
theorem aJu(h:P:=by
 refine wp_region_quiet_below aG aG ?_;(repeat (any_goals (first | go_big_quiet_step ((first | exact jS HN.out _ _ | exact jS HW.out _ _)) | quiet_step ((first | exact jS HN.out _ _ | exact jS HW.out _ _)))));refine wpQuiet_nil ?_;intro _ hwq;obtain⟨⟨dq,osq⟩,hwq⟩:=hwq;subst hwq;have hb3:=below_regrown (wr) dq osq;generalize grow (redrawn (wr) dq) osq=w3 at *
 go_wp2
 go_ret
 exact⟨rfl,aJ⟩):P:=h
theorem aLd(h:P:=by
 go_enter func84,ntmps84
 go_wp2_with (go_at_call 145;refine (HC.out _).mono ?_;rintro e w1 ⟨rfl,hb1⟩)
 go_ret
 exact⟨rfl,aJ⟩):P:=h
theorem aKt(h:P:=by
 go_wp2_with (first
  | (refine bD rfl 32 _ rfl ⟨gt,0,none⟩ (.agg Z) rfl (HBN.out.ldT _ hS) ?_)
  | (refine wpList_store_row rfl 32 _ _ rfl gl Z rfl rfl _ Y (HBN.out.lb _ hS) HBN.out.zi HBN.out.zy HBN.out.zo ?_))
 have hf:=HFIN.out _ hS
 exact⟨⟨i+1,z,aB,by rw[HNB.out],bg,aA hf.1,aA hf.2⟩,dD⟩):P:=h
theorem aJe(h:P:=by
 clear hbad
 go_enter func153,ntmps153
 go_wp2_with (first | (go_at_call 147;refine (H1.out _ hE).mono ?_;rintro e w1 ⟨hb1,k1,t1,A1,n1,d1,b1,rfl⟩;have hE1:=Env.keep hE hb1;clear hE) | (go_at_call 147;refine (H2.out _ (Env.keep hE1 (aU (Below.refl _ _) _))).mono ?_;rintro e w2 ⟨hb2,k2,t2,A2,n2,d2,b2,rfl⟩;clear hE1))
 go_ret3
 exact⟨rfl,aJ⟩):P:=h
theorem aFr(h:P:=by
 clear c1 c2
 go_enter func189,ntmps189
 go_wp2_with (go_at_call 105;refine (HW.out _).mono ?_;rintro e w1 ⟨rfl,hb1⟩)
 go_ret
 exact⟨fV aH,aJ⟩):P:=h
theorem aDw(h:P:=by
 go_wp2_with fail
 go_quiet (fail)
 go_wp2
 go_ret
 exact⟨rfl,aJ⟩):P:=h
theorem aCj(h:P:=by
 (go_enter func67,ntmps67;go_wp2;go_ret;exact⟨rfl,aJ⟩)):P:=h
theorem aJg(h:P:=by
 clear HV
 subst hVe
 generalize jI (c0 :: qN ys)=V2 at *
 go_wp2_with (go_at_call 215;refine (HXE.out _ _ _ HRD.out).mono ?_;rintro e w7 ⟨rfl,hb7⟩)
 go_ret3
 exact⟨rfl,aJ⟩):P:=h
theorem aDk(h:P:=by
 clear hV
 go_enter func9,ntmps9
 go_wp2
 go_ret
 exact⟨rfl,aJ⟩):P:=h
theorem aDl(h:P:=by
 go_enter func26,ntmps26
 go_wp2
 go_ret
 exact⟨rfl,aJ⟩):P:=h
theorem aKs(h:P:=by
 go_wp2_with (go_at_call 11;refine (HSA.out _ hS).mono ?_;(rintro e w' ⟨rfl,hb'⟩;replace hS:=HSK.out _ _ hS hb';clear hb'))
 go_ret
 exact⟨rfl,HSB.out _ hS⟩):P:=h
theorem aDn(h:P:=by
 go_enter func105,ntmps105
 go_wp2
 go_ret
 exact⟨rfl,aJ⟩):P:=h
theorem aFs(h:P:=by
 clear c1 c2
 go_enter func189,ntmps189
 go_wp2
 go_ret
 exact⟨rfl,aJ⟩):P:=h
theorem aJx(h:P:=by
 go_wp2_with (go_at_call 259;refine (HX.out _ (HP.out.keep aJ) (HQ.out.keep aJ)).mono ?_;rintro e w3 ⟨rfl,hb3⟩)
 go_ret
 exact⟨rfl,aJ⟩):P:=h
theorem aHv(h:P:=by
 go_wp2
 go_ret
 refine⟨fV ?_,aJ⟩
 have:=HK.out
 rw[List.take_of_length_le (by rw[<-Lib.size_eq];omega)]at this
 exact this.symm):P:=h
theorem aIj(h:P:=by
 go_wp2_with fail
 go_meet
 exact⟨World.alloc_heap_new _ _,aU (Below.refl _ _) _⟩):P:=h
theorem aJv(h:P:=by
 refine wp_region_quiet_below aG aG ?_;(repeat (any_goals (first | go_big_quiet_step ((first | exact jS HN.out _ _ | exact jS HW.out _ _)) | quiet_step ((first | exact jS HN.out _ _ | exact jS HW.out _ _)))));refine wpQuiet_nil ?_;intro _ hwq;obtain⟨⟨dq,osq⟩,hwq⟩:=hwq;subst hwq;have hb3:=below_regrown (wr) dq osq;generalize grow (redrawn (wr) dq) osq=w3 at *
 go_wp2
 first | (exact⟨⟨1,bg,aB,HO,Blk.keep hX aJ,aJ⟩,dD⟩) | (exact⟨⟨j+1+1,bg,aB,HO,Blk.keep hX aJ,aJ⟩,dD⟩)):P:=h
theorem aKb(h:P:=by
 rw[if_neg aK]
 go_enter func145,ntmps145
 go_wp2_with (go_at_call 186;refine (HP.out _).mono ?_;rintro e w1 ⟨hb1,A,ca,B,cb,rfl,hA,hB⟩;have hX1:Gi w1 w.heap.size ⟨#[]⟩ 0:=Blk.keep (World.alloc_heap_new _ _) hb1;obtain⟨x0,x1,f0,f1⟩:=hX1.facts;have hz1:w.heap.size<w1.heap.size:=Blk.lt hX1;have hz9:w1.heap.size≠w.heap.size:=aB;have HA:=aA hA;have HB:=aA hB;clear hA hB)
 first | (exact bodyPost_ret (v:=.agg #[.string ⟨#[]⟩,.int .i64 2]) aLe rfl ⟨rfl,aJ⟩) | (exact bodyPost_ret (v:=.agg #[.string ⟨#[]⟩,.int .i64 3]) aLe rfl ⟨rfl,aJ⟩)):P:=h
theorem aIa(h:P:=by
 clear hadd
 go_wp2_with fail
 have n1:¬ 9223372036854775807<S.size+1:=aB
 have n2:¬ 9223372036854775807<S.size+1+qk.size:=aB
 have n3:¬ 9223372036854775807<S.size+1+qk.size+1:=aB
 have n4:¬ 9223372036854775807<S.size+1+qk.size+1+qv.size:=aB
 go_quiet (fail)
 go_wp2
 first | (exact⟨⟨1,bg,aB,congrArg Value.string HS.out,Blk.keep hX aJ,aJ⟩,dD⟩) | (exact⟨⟨j+1,bg,aB,congrArg Value.string HS.out,Blk.keep hX aJ,aJ⟩,dD⟩)):P:=h
theorem aJw(h:P:=by
 clear hpk HF HTr
 go_wp2_with fail
 have k1:=cell_regrown hc1;have k2:=cell_regrown hc2;have k3:=cell_regrown x2;have k4:=cell_regrown hc4
 first | (exact aJv) | (exact aJu)):P:=h
end Go.Proofs
