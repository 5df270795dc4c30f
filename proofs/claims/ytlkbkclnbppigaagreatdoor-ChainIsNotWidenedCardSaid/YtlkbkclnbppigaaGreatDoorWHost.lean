/- Proofs that are used in many places. -/
import Derived.Test.YtlkbkclnbppigaaGreatDoorIHost

set_option maxHeartbeats 2000000
namespace Go.Proofs
set_option linter.unusedVariables false
variable {P:Prop}
theorem aEn(h:P:=by first | exact Blk.keep hX hb2 | exact Blk.keep hX2 hb2 | exact Blk.keep (World.alloc_heap_new _ _) hb2):P:=h
theorem aEt(h:P:=by rw[HR.out,Bool.and_true];(apply Bool.eq_iff_iff.2;simp only[decide_eq_true_eq,Bool.false_eq_true,eq_self,false_iff,iff_false,true_iff,iff_true,Bool.true_and] <;> omega)):P:=h
theorem aEz(h:P:=by simp only[qp];repeat' (first | apply And.intro | exact vU _ | exact MJ _ _ | exact Xo _ _ | exact trivial)):P:=h
theorem aFp(h:P:=by simp only[qp];repeat' (first | apply And.intro | exact vU _ | exact aJv _ _ _ | exact aFm _ | exact trivial)):P:=h
theorem aEs(h:P:=by rw[hbad _ rfl,decide_eq_true (show 1<=x.t.cust/\x.t.cust<=1073741824 by omega),decide_eq_false aB];rfl):P:=h
theorem aGc(h:P:=by rw[<-hw0];exact HS0.out):P:=h
theorem aDf(h:P:=by rw[<-hw0];exact (heap_alloc_new w _).trans rfl):P:=h
theorem aFr(h:P:=by rw[<-hw1];exact below_setRow (Below.refl _ _) (Nat.le_refl _) _):P:=h
theorem aGd(h:P:=by rw[<-hwx];exact setRow_heap _ _ _ _ _ _ (heap_alloc_new wr _)):P:=h
theorem aBw(h:P:=by have:=HLN.out;omega):P:=h
theorem aEm(h:P:=by rw[Lib.toList_data];exact List.eq_nil_of_length_eq_zero uf):P:=h
theorem aDd(h:P:=by have:=hR.1;simpa[b8] using this):P:=h
theorem aDk(h:P:=by have:=fE hown4 _ e.symm;omega):P:=h
theorem aDb(h:P:=by rw[List.length_drop];omega):P:=h
theorem aDj(h:P:=by simpa using hu.symm):P:=h
theorem aBz(h:P:=by simpa using hs):P:=h
theorem aGi(h:P:=by
 rw[Option.bind_some]at h
 split at h
 ·rename_i cs t fr hc
  injection h with h
  refine⟨t,fr,hc.trans ?_⟩
  rw[h]
  unfold ksI w32
  rw[List.map_map]
  rfl
 ·cases h):P:=h
theorem aFi(h:P:=by
 rw[HRR.out,HE1.out]
 exact⟨below_setRow HS1.out.b aB _,vZ,rfl,yz _,rfl,fun h=>absurd h aK,fun h=>absurd h (Nat.lt_irrefl 0),fun a ha=>jd⟩):P:=h
theorem aFe(h:P:=by
 exact aCd rfl _ _ (w.heap.size+2) _ rfl (aBu (setRow_heap _ _ _ _ _ _ HR5.out) HMS.out)):P:=h
theorem aFh(h:P:=by
 exact aCd rfl _ _ (w.heap.size+2) _ rfl (aBu (setRow_heap _ _ _ _ _ _ HS1.out.z) rfl)):P:=h
theorem aGl(h:P:=by
 injection h0 with h0
 subst h0
 exact⟨none,0,0,[],rfl,rfl,aI.nil_ _ _ _⟩):P:=h
theorem aFx(h:P:=by
 rw[<-aDu f s hs,<-h,List.take_take,Nat.min_eq_left (Nat.mul_le_mul_right _ aB)]):P:=h
theorem aEr(h:P:=by
 have e:R=false:=by rw[hbad _ rfl,decide_eq_false aB];rfl
 subst e
 have HN:=aA hN
 clear hN hbad
 exact aCq):P:=h
theorem aDl(h:P:=by simp[results,results130,go_sem,hz2,x0,x1,x2,f0,f1,f2]):P:=h
theorem aMm(h:P:=by simp[results,results131,go_sem,hz,k0,k1,g0,g1,HT2.out]):P:=h
theorem aBx(h:P:=by
 go_enter func5,ntmps5
 go_upto_region 1 with fail
 generalize hw0:World.alloc _ _=w0
 have hS:S w0:=aGc
 clear hw0
 go_wp2_with (first | (first | (refine bD rfl 23 _ rfl ⟨w.heap.size,0,none⟩ (.agg KA) rfl (LDK.out _ hS) ?_) | (go_big_want;refine jE 23 _ rfl ⟨w.heap.size,0,none⟩ (.agg KA) rfl (LDK.out _ hS) ?_;simp only[Act.put,ag])) | (first | (refine bD rfl 27 _ rfl ⟨w.heap.size+1,0,none⟩ (.agg YC) rfl (LDC.out _ hS) ?_) | (go_big_want;refine jE 27 _ rfl ⟨w.heap.size+1,0,none⟩ (.agg YC) rfl (LDC.out _ hS) ?_;simp only[Act.put,ag])) | ((first | (go_at_call 31;refine (HVK.out _).mono ?_) | (go_at_call 9;refine (HFO.out _ (HSB.out _ hS)).mono ?_) | (go_at_call 32;refine (HVO.out _ (HSB.out _ hS)).mono ?_) | (go_at_call 11;refine (HSA.out _ hS).mono ?_));(rintro e w' ⟨rfl,hb'⟩;replace hS:=HSK.out _ _ hS hb';clear hb')))
 go_ret
 exact⟨rfl,HSB.out _ hS⟩):P:=h
theorem aEq(h:P:=by
 clear e1
 go_upto_region 12 with fail
 rw[<-E1.out]
 have n1:¬ 9223372036854775807<u1.size+1:=aB
 have n2:¬ 9223372036854775807<u1.size+1+u2.size:=aB
 have n3:¬ 9223372036854775807<u1.size+1+u2.size+1:=aB
 have n4:¬ 9223372036854775807<u1.size+1+u2.size+1+pp.size:=aB
 have n5:¬ 9223372036854775807<u1.size+1+u2.size+1+pp.size+1:=aB
 have n6:¬ 9223372036854775807<u1.size+1+u2.size+1+pp.size+1+t1.size:=aB
 have n7:¬ 9223372036854775807<u1.size+1+u2.size+1+pp.size+1+t1.size+1:=aB
 have n8:¬ 9223372036854775807<u1.size+1+u2.size+1+pp.size+1+t1.size+1+t2.size:=aB
 have n9:¬ 9223372036854775807<u1.size+1+u2.size+1+pp.size+1+t1.size+1+t2.size+1:=aB
 have n10:¬ 9223372036854775807<u1.size+1+u2.size+1+pp.size+1+t1.size+1+t2.size+1+t3.size:=aB
 have n11:¬ 9223372036854775807<u1.size+1+u2.size+1+pp.size+1+t1.size+1+t2.size+1+t3.size+1:=aB
 have n12:¬ 9223372036854775807<u1.size+1+u2.size+1+pp.size+1+t1.size+1+t2.size+1+t3.size+1+u3.size:=aB
 clear z1 z2 z3 z4 z5 z6 z7
 have hcu:aF wr wr.drew:=Below.drew (Below.refl _ _)
 go_region_held3 (fun w'=>w'.cell? ⟨w.heap.size,0,none⟩=some (.int .i64 fr)/\w'.cell? ⟨w.heap.size,1,none⟩=some (.int .i64 till)/\w'.cell? ⟨w.heap.size,2,none⟩=some (.string pat)/\w'.cell? ⟨w.heap.size,3,none⟩=some (.slice A na ca)/\w'.cell? ⟨w.heap.size,4,none⟩=some (.slice B nb cb)/\w'.cell? ⟨w.heap.size,5,none⟩=some (.slice S k cs)/\w'.cell? ⟨w.heap.size,6,none⟩=some (.int .i64 us)/\aF w w')
  (first | exact⟨x0,x1,x2,x3,x4,x5,x6,Below.drew hbw⟩ | (go_split_ands;refine⟨?_,?_,?_,?_,?_,?_,?_,?_⟩ <;> first | assumption | (refine aW hb4 ?_;assumption) | (refine aV ?_ hb4;assumption) | (refine Eq.trans (World.cell?_setCell_far _ _ _ _ aH) (Eq.trans (World.cell?_setCell_far _ _ _ _ aH) ?_);assumption) | (refine Below.setCell (Below.setCell ?_ aH _) aH _;assumption)))
  (((first | (go_at_call 59;(first | (with_reducible refine (D1.out _).mono ?_) | (with_reducible refine (D2.out _).mono ?_) | (with_reducible refine (D3.out _).mono ?_))) | (go_at_call 190;(first | (with_reducible refine (K1.out _ hcu).mono ?_) | (with_reducible refine (K2.out _ hcu).mono ?_) | (with_reducible refine (K3.out _ hcu).mono ?_))));rintro e w4 ⟨rfl,hb4⟩;replace hcu:=aV hcu hb4;have hKc:=Blk.keep hK hcu;(try clear k0 k1 g0 g1 hz);obtain⟨k0,k1,g0,g1,hz⟩:=KW.facts hKc))
 all_goals go_wp2
 all_goals exact bodyPost_ret (v:=.agg #[.string T,.int .i64 0]) aMm rfl ⟨rfl,jH⟩):P:=h
theorem XC(h:P:=by
 (go_enter func32,ntmps32;go_wp2_with (go_at_call 66;refine (HVA.out _).mono ?_;rintro e w2 ⟨rfl,hb2⟩;(have hX2:aX w2 w.heap.size fr till pat A na ca B nb cb S ns cs us:=aEn;obtain⟨x0,x1,x2,x3,x4,x5,x6⟩:=hX2.facts));go_ret;exact⟨rfl,aJ⟩)):P:=h
theorem FM(h:P:=by
 clear hC hA h0
 go_wp2
 exact⟨rfl,rfl,fun h=>hJ.1 nD,fun h=>hJ.2 nD⟩):P:=h
theorem aCq(h:P:=by
 go_enter func15,ntmps15
 go_upto_region 1 with fail
 generalize hw0:World.alloc _ _=w0
 have B0:fQ w0 w.heap.size x:=⟨vN⟩
 have hb0:aF w w0:=yY
 clear hw0
 obtain⟨y0,y1,y2,y3⟩:=B0.cells
 rw[HLN.out]at y3
 (go_wp2_with (go_at_call 50;refine (HN.out _).mono ?_;rintro e w2 ⟨rfl,hb2⟩;have B2:=B0.keep hb2;have hbw:=aV hb0 hb2;clear y0 y1 y2 y3;obtain⟨y0,y1,y2,y3⟩:=B2.cells;rw[HLN.out]at y3);go_ret;exact⟨rfl,aJ⟩)):P:=h
theorem aEj(h:P:=by
 go_enter func130,ntmps130
 go_wp2_with (first | (go_at_call 188;refine (HS.out _).mono ?_;rintro e w1 ⟨A,c,rfl,hown,hb1⟩;have hX1:JA w1 w.heap.size ⟨#[]⟩ (.slice none 0 0) false:=Blk.keep (World.alloc_heap_new _ _) hb1;obtain⟨pb,po,u,rfl,hu,g0⟩:=(aI.of_own hown).at_ (k:=0) aB;(obtain rfl:u=.string l0:=aDj);clear hu;have gg:w1.cell? ⟨pb,po,none⟩=some (.string l0):=g0;clear g0;have hR1:=aI.of_own hown;clear hown;obtain⟨x0,x1,x2,f0,f1,f2⟩:=hX1.facts;have hz1:w.heap.size<w1.heap.size:=Blk.lt hX1) | (go_at_call 50;refine (HN.out _).mono ?_;rintro e w2 ⟨rfl,hb2⟩;have hX2:JA w2 w.heap.size ⟨#[]⟩ (.slice none 0 0) false:=Blk.keep hX1 hb2;have gg2:=aW hb2 gg;have hR2:=hR1.keep hb2;clear x0 x1 x2 f0 f1 f2;obtain⟨x0,x1,x2,f0,f1,f2⟩:=hX2.facts;have hz2:w.heap.size<w2.heap.size:=Blk.lt hX2))
 rw[<-HV.out,HNO.out]
 exact bodyPost_ret (v:=.tuple #[.agg #[.string ⟨#[]⟩,.slice none 0 0,.bool false],.bool false]) aDl rfl ⟨aJ,rfl⟩):P:=h
theorem aEk(h:P:=by
 go_wp2_with (go_at_call 189;refine (HP.out _).mono ?_;rintro e w4 ⟨rfl,hb4⟩;have hP4:JA w4 w.heap.size ⟨#[]⟩ (.slice none 0 0) false:=Blk.keep hP hb4;have hB4:JA w4 w2.heap.size l0 (.slice A' acc.length c') false:=Blk.keep hB hb4;have hown4:=fZ hown hb4;have hbw4:=aV hbw hb4;have hFr4:∀ j,j<w2.heap.size->w4.heap[j]? = w2.heap[j]?:=(fun j q1=>(hb4.block j aB).trans (hFr j q1));have hzr4:w2.heap.size+1<=w4.heap.size:=Nat.le_trans hzr hb4.size;have hcell4:=aW hb4 hcell;clear x0 x1 x2 f0 f1 f2 y0 y1 y2 g0 g1 g2;obtain⟨x0,x1,x2,f0,f1,f2⟩:=hP4.facts;obtain⟨y0,y1,y2,g0,g1,g2⟩:=hB4.facts)
 rw[<-HV.out,HV2.out,HNO.out]
 exact bodyPost_ret (v:=.tuple #[.agg #[.string ⟨#[]⟩,.slice none 0 0,.bool false],.bool false]) aDl rfl ⟨aJ,rfl⟩):P:=h
theorem aFs(h:P:=by
 clear hor hlt HC HFIN HNR HLDC
 go_wp2_with (first | (refine bD rfl 40 _ rfl ⟨gx,0,none⟩ (.agg X) rfl HLM.out ?_) | (refine wpList_store_row rfl 40 _ _ rfl (w.heap.size+1) X rfl rfl _ aBg HS.out.s.z (by rw[HXS.out];exact MB) (by rw[HXS.out];rfl) HXO.out ?_))
 refine bodyPost_ret (v:=.agg X) ?_ rfl ?_
 ·exact aCd rfl _ _ (w.heap.size+1) _ rfl (aBu (setRow_heap _ _ _ _ _ _ HS.out.s.z) HXS.out)
 ·rw[HRE.out]
  exact⟨below_setRow HS.out.s.b aB _,y,by rw[HX.out],HFX.out _,rfl⟩):P:=h
theorem aDt(h:P:=by
 (try simp only[bQ,DL,IsV,bV,Region.binds,and_true,true_and]at hd)
 simp only[aZ,kM,Act.put,ag,bV]
 (try simp only[hd])
 clear hd
 go_wp2
 exact⟨rfl,rfl,rfl,aJ⟩):P:=h
theorem aDw(h:P:=by
 go_wp2_with (go_at_call 11;refine (HSA.out _ hS).mono ?_;(rintro e w' ⟨rfl,hb'⟩;replace hS:=HSK.out _ _ hS hb';clear hb'))
 go_ret
 exact⟨rfl,HSB.out _ hS⟩):P:=h
theorem aDh(h:P:=by
 clear c1 c2
 go_enter func189,ntmps189
 go_wp2_with (go_at_call 105;refine (HW.out _).mono ?_;rintro e w1 ⟨rfl,hb1⟩)
 go_ret
 exact⟨fV aH,aJ⟩):P:=h
theorem aCm(h:P:=by
 go_wp2_with fail
 go_quiet (fail)
 go_wp2
 go_ret
 exact⟨rfl,aJ⟩):P:=h
theorem aBs(h:P:=by
 (go_enter func67,ntmps67;go_wp2;go_ret;exact⟨rfl,aJ⟩)):P:=h
theorem aFq(h:P:=by
 (try simp only[bQ,DL,IsV,bV,Region.binds,and_true,true_and]at hd)
 simp only[aZ,kM,Act.put,ag,bV]
 (try simp only[hd])
 clear hd
 have hsz:=hS.2
 go_wp2
 exact⟨rfl,⟨_,rfl,hsz,heap_alloc_new W _⟩,rfl,aJ⟩):P:=h
theorem aCj(h:P:=by
 clear hV
 go_enter func9,ntmps9
 go_wp2
 go_ret
 exact⟨rfl,aJ⟩):P:=h
theorem aCk(h:P:=by
 go_enter func105,ntmps105
 go_wp2
 go_ret
 exact⟨rfl,aJ⟩):P:=h
theorem aDi(h:P:=by
 clear c1 c2
 go_enter func189,ntmps189
 go_wp2
 go_ret
 exact⟨rfl,aJ⟩):P:=h
theorem aEc(h:P:=by
 go_wp2
 go_ret
 refine⟨fV ?_,aJ⟩
 have:=HK.out
 rw[List.take_of_length_le (by rw[<-Lib.size_eq];omega)]at this
 exact this.symm):P:=h
theorem aFb(h:P:=by
 go_wp2_with (refine bD rfl 27 _ rfl ⟨b,o+i*7,none⟩ (.agg Yi) rfl hld ?_)
 exact⟨rfl,rfl,rfl,aJ⟩):P:=h
theorem aFa(h:P:=by
 go_wp2_with (refine bD rfl 23 _ rfl ⟨w.heap.size,0,none⟩ (.agg KX) rfl hld ?_)
 exact⟨rfl,rfl,rfl,aJ⟩):P:=h
theorem aBl(h:P:=by
 go_wp2_with (at_builtin;refine wpList_append_own _ rfl _ _ 105 rfl w.heap.size 5 i0 (.int .u8 0) 1 1 underlying105 HI.out.1 HI.out.2.1 HI.out.2.2.1 HI.out.2.2.2 rfl aK _ _ _ rfl (hown.alloc _) ⟨wr.heap.size,0,none⟩ 1 1 [_] rfl rfl (cell_one_new _ _ _) jJ dh aB aP ?_;intro v' w3 hown1 hgrow1 _;obtain⟨g1,cap1,rfl⟩:=ownsRow_succ hown1;have hb3:aF w w3:=(hbr.alloc aB _).grown hgrow1 aP (fun r e=>fE hown r e);clear hown hgrow1)
 have hown2:=TT (n:=n+1+p) hown1 aB aAt aAy
 refine⟨?_,rM⟩
 repeat apply Exists.intro
 first | (exact⟨⟨1,some ⟨g1,0,none⟩,cap1,aB,rfl,rfl,hown2,hb3⟩,rfl⟩) | (exact⟨⟨2,some ⟨g1,0,none⟩,cap1,aB,rfl,rfl,hown2,hb3⟩,rfl⟩) | (exact⟨⟨3,some ⟨g1,0,none⟩,cap1,aB,rfl,rfl,hown2,hb3⟩,rfl⟩) | (exact⟨⟨4,some ⟨g1,0,none⟩,cap1,aB,rfl,rfl,hown2,hb3⟩,rfl⟩) | (exact⟨⟨5,some ⟨g1,0,none⟩,cap1,aB,rfl,rfl,hown2,hb3⟩,rfl⟩) | (exact⟨⟨6,some ⟨g1,0,none⟩,cap1,aB,rfl,rfl,hown2,hb3⟩,rfl⟩) | (exact⟨⟨7,some ⟨g1,0,none⟩,cap1,aB,rfl,rfl,hown2,hb3⟩,rfl⟩) | (exact⟨⟨8,some ⟨g1,0,none⟩,cap1,aB,rfl,rfl,hown2,hb3⟩,rfl⟩)):P:=h
theorem aGm(h:P:=by
 have h0:DataW.trod enc prog W base sp hd n' 3 [c0]=ys[0]?:=hg 0 _ rfl
 have h1:DataW.trod enc prog W base sp hd n' 3 [c1]=ys[1]?:=hg 1 _ rfl
 have h2:DataW.trod enc prog W base sp hd n' 9 [c2]=ys[2]?:=hg 2 _ rfl
 have h3:DataW.trod enc prog W base sp hd n' 24 [c3]=ys[3]?:=hg 3 _ rfl
 have h4:DataW.trod enc prog W base sp hd n' 24 [c4]=ys[4]?:=hg 4 _ rfl
 have h5:DataW.trod enc prog W base sp hd n' 25 [c5]=ys[5]?:=hg 5 _ rfl
 have h6:DataW.trod enc prog W base sp hd n' 3 [c6]=ys[6]?:=hg 6 _ rfl
 rw[List.getElem?_eq_getElem aB]at h0 h1 h2 h3 h4 h5 h6
 obtain⟨fr,e0,_⟩:=DataW.trod_int underlying3 h0
 obtain⟨till,e1,_⟩:=DataW.trod_int underlying3 h1
 obtain⟨pat,e2,_⟩:=DataW.trod_string underlying9 h2
 obtain⟨us,e6,_⟩:=DataW.trod_int underlying3 h6
 obtain⟨A,na,ca,cl,rfl,l1,r1⟩:=aGk h3
 obtain⟨B,nb,cb,co,rfl,l2,r2⟩:=aGk h4
 obtain⟨S,ns,cs,si,rfl,l3,r3⟩:=aLm h5
 injection e0 with e0
 injection e1 with e1
 injection e2 with e2
 injection e6 with e6
 subst e0;subst e1;subst e2;subst e6;subst l1;subst l2;subst l3
 first | (exact⟨⟨fr,till,pat,cl,co,si,us⟩,⟨A,ca,B,cb,S,cs⟩,rfl,⟨r1,r2,r3⟩⟩) | (exact⟨⟨⟨fr,till,pat,cl,co,si,us⟩,⟨A,ca,B,cb,S,cs⟩⟩,rfl,⟨r1,r2,r3⟩⟩)):P:=h
theorem aFg(h:P:=by
 refine wpList_plain hgd fun K hK=>?_
 unfold Oper.wp execOp
 simp only[ho,resolve,invoke,builtin,Sem.run_bind,Sem.run_pure,Result.andThen_ok,List.map_toArray,List.map_cons,List.map_nil,hs,hx,hr]
 first | (exact hK _ _ (h v' w' h2 h3)) | (exact hK _ _ h)):P:=h
theorem aEx(h:P:=by
 (try simp only[bQ,DL,IsV,bV,Region.binds,and_true,true_and]at hd)
 simp only[aZ,kM,Act.put,ag,bV]
 (try simp only[hd])
 clear hd
 go_wp2
 first | (exact⟨rfl,⟨_,rfl,MK W sx tx _ rfl⟩,rfl,aJ⟩) | (exact⟨rfl,⟨_,rfl,MK W _ tx _ rfl⟩,rfl,aJ⟩)):P:=h
theorem aEe(h:P:=by
 refine⟨h.1,fun hn=>?_⟩
 obtain⟨b,o,e,hc⟩:=h.2 hn
 injection e with e
 injection e with e1 e2
 subst e1;subst e2
 refine⟨gm,0,rfl,fun j u hj=>?_⟩
 first | (exact (World.cell?_of_block (w:=W) (setRow_other W k gm ds hk)).trans (hc j u hj)) | (exact (World.cell?_of_block (w:=W) (heap_setCell_other W q gm v hk)).trans (hc j u hj))):P:=h
theorem aEw(h:P:=by
 have hld:=iO hS.y HYS.out
 go_wp2_with (refine bD rfl 27 _ rfl ⟨w.heap.size+1,0,none⟩ (.agg Y) rfl hld ?_)
 first | (exact⟨rfl,rfl,rfl,aJ⟩) | (exact⟨rfl,rfl,rfl,NrG.refl _⟩)):P:=h
theorem aFj(h:P:=by
 rw[show (⟨b,o,none⟩:Addr).add j=⟨b,o+j,none⟩ by unfold Addr.add;split <;> simp_all]
 first | (exact aW hb (hrow j u (by rw[hxs]at hu;exact hu))) | (exact aW hb (HROW.out j u (by rw[hxs]at hu;exact hu)))):P:=h
end Go.Proofs
