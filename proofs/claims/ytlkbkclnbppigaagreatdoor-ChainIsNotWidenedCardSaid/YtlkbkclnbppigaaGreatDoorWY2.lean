/- What the specification's Compile and Valid return. -/
import Derived.Test.YtlkbkclnbppigaaGreatDoorWY1
set_option maxHeartbeats 16000000
namespace Go.Proofs.YtlkbkclnbppigaaGreatDoor
open Tryz
open Go.RowKit Go.Sort
set_option linter.unusedVariables false
set_option linter.unusedSimpArgs false
set_option maxRecDepth 100000
def aCo(r:Option Pat)(w:World)(e:Ending)(w':World):Prop :=
 aF w w'/\match r with
 | none=>e=.returned (.tuple #[.agg #[.string ⟨#[]⟩,.slice none 0 0,.bool false],.bool false])
 | some x=>∃ A c,e=.returned (.tuple #[.agg #[.string (I9 x.cust),.slice A x.parts.length c,.bool x.tail],.bool true])/\aI w' 1 A x.parts.length ((dX x.parts).map .string)
theorem aIo(acc:List bI)(w:aC)(h:kP w=true):dX (acc++[dG w])=dX acc++[w]:=by
 unfold dX;rw[List.map_append,List.map_singleton,UD h]
theorem aIp(s:aC)(w:World)(hs:s.size<=100000):Calls prog 130 #[.string s] w (aCo (dI s) w):=by
 have cS:=fun W=>aGw s 47 W aB
 have hsz:=oU 47 s;have hnum:=qM 47 s;have hne:splitB 47 s ≠ []:=by
  intro h;have:=congrArg List.length h;unfold splitB at this;rw[List.length_map]at this;exact F9 47 s.data.toList (List.eq_nil_of_length_eq_zero this)
 unfold dI;generalize splitB 47 s=l at *;obtain⟨l0,r,rfl⟩:=List.exists_cons_of_ne_nil hne;have hl0:l0.size<=100000:=Nat.le_trans (hsz l0 aH) hs;have cN:=fun W=>aDa l0 W aB
 obtain⟨m,hm⟩:∃ m,m=r.length:=⟨_,rfl⟩;have HS:Hid (∀ W,Calls prog 188 #[.string s,.int .u8 47] W (fun e w'=>∃ A c,e=.returned (.slice A (m+1) c)/\w'.ownsRow W.heap.size 9 1 (.slice A (m+1) c) (m+1) ((l0 :: r).map .string)/\aF W w')):=aA (by rw[hm];exact cS);have HN:=aA cN;have HM:=aA hm;have hm9:m<=100001:=by rw[hm];simp at hnum;omega
 have hv:rV (l0 :: r)=if decide (m<=32)&&iT l0 then (dK r []).map fun x=>⟨dG l0,x.1,x.2⟩ else none:=by rw[BD,hm]
 have hn0:(0:Int)<(m:Int)+1:=aB;generalize hV:aCo (rV (l0 :: r)) w=V;have HV:=aA hV;have HSZ:Hid (∀ p∈r,p.size<=100000):=aA (fun p hp=>Nat.le_trans (hsz p oV) hs);obtain⟨i0,hi0,hz0,hz1,hz2⟩:=info_parts rY;have HI:Hid ((prog.info? 9=some i0)/\i0.zero=some (.string ⟨#[]⟩)/\i0.size=1/\i0.bytes=16):=aA ⟨hi0,hz0,hz1,hz2⟩;clear hne cS cN hm hsz hnum hV hi0 hz0 hz1 hz2;cases hho:iT l0
 ·have HNO:Hid (rV (l0 :: r)=none):=aA (by rw[hv,hho];simp);unfold iT at hho;simp only[Bool.or_eq_false_iff]at hho;obtain⟨h1,h2⟩:=hho;have h1':¬ l0.toList=[42]:=by simpa using h1
  rw[h2]at HN;clear h2 hv;exact aEj
 have hho2:((l0.toList == [42])=true/\l0.toList=[42])\/((l0.toList == [42])=false/\¬ l0.toList=[42]/\bU l0=true):=by
  have hho':=hho;unfold iT at hho';cases h:(l0.toList == [42])
  ·right;exact⟨rfl,nD,by simpa[h] using hho'⟩
  ·left;exact⟨rfl,nD⟩
 by_cases hbig:m<=32;rotate_left
 ·have HNO:Hid (rV (l0 :: r)=none):=aA (by rw[hv];simp[hbig]);have hd:decide ((32:Int)<(m:Int))=true:=aP;clear hv hho;rcases hho2 with ⟨h1,h1'⟩ | ⟨h1,h1',h2⟩
  ·go_enter func130,ntmps130;go_wp2_with (first | (go_at_call 188;refine (HS.out _).mono ?_;rintro e w1 ⟨A,c,rfl,hown,hb1⟩;have hX1:JA w1 w.heap.size ⟨#[]⟩ (.slice none 0 0) false:=Blk.keep (World.alloc_heap_new _ _) hb1;obtain⟨pb,po,u,rfl,hu,g0⟩:=(aI.of_own hown).at_ (k:=0) aB;(obtain rfl:u=.string l0:=aDj);clear hu;have gg:w1.cell? ⟨pb,po,none⟩=some (.string l0):=g0;clear g0;have hR1:=aI.of_own hown;clear hown;obtain⟨x0,x1,x2,f0,f1,f2⟩:=hX1.facts;have hz1:w.heap.size<w1.heap.size:=Blk.lt hX1) | (go_at_call 50;refine (HN.out _).mono ?_;rintro e w2 ⟨rfl,hb2⟩;have hX2:JA w2 w.heap.size ⟨#[]⟩ (.slice none 0 0) false:=Blk.keep hX1 hb2;have gg2:=aW hb2 gg;have hR2:=hR1.keep hb2;clear x0 x1 x2 f0 f1 f2;obtain⟨x0,x1,x2,f0,f1,f2⟩:=hX2.facts;have hz2:w.heap.size<w2.heap.size:=Blk.lt hX2));rw[<-HV.out,HNO.out];exact bodyPost_ret (v:=.tuple #[.agg #[.string ⟨#[]⟩,.slice none 0 0,.bool false],.bool false]) (by simp[results,results130,go_sem,hz1,x0,x1,x2,f0,f1,f2]) rfl ⟨aJ,rfl⟩
  ·rw[h2]at HN;exact aEj
 have hd:decide ((32:Int)<(m:Int))=false:=aP;have hv2:rV (l0 :: r)=(dK r []).map fun x=>⟨dG l0,x.1,x.2⟩:=by rw[hv,hho];simp[hbig]
 have hst:I9 (dG l0)=l0:=UC hho;have HV2:=aA hv2;have HST:=aA hst;clear hv hho hv2 hst;rcases hho2 with ⟨h1,h1'⟩ | ⟨h1,h1',h2⟩
 rotate_left;rw[h2]at HN;clear h2;rotate_left;all_goals
  go_enter func130,ntmps130;go_wp2_with (first | (go_at_call 188;refine (HS.out _).mono ?_;rintro e w1 ⟨A,c,rfl,hown,hb1⟩;have hX1:JA w1 w.heap.size ⟨#[]⟩ (.slice none 0 0) false:=Blk.keep (World.alloc_heap_new _ _) hb1;obtain⟨pb,po,u,rfl,hu,g0⟩:=(aI.of_own hown).at_ (k:=0) aB;(obtain rfl:u=.string l0:=aDj);clear hu;have gg:w1.cell? ⟨pb,po,none⟩=some (.string l0):=g0;clear g0;have hR1:=aI.of_own hown;clear hown;obtain⟨x0,x1,x2,f0,f1,f2⟩:=hX1.facts;have hz1:w.heap.size<w1.heap.size:=Blk.lt hX1) | (go_at_call 50;refine (HN.out _).mono ?_;rintro e w2 ⟨rfl,hb2⟩;have hX2:JA w2 w.heap.size ⟨#[]⟩ (.slice none 0 0) false:=Blk.keep hX1 hb2;have gg2:=aW hb2 gg;have hR2:=hR1.keep hb2;clear x0 x1 x2 f0 f1 f2;obtain⟨x0,x1,x2,f0,f1,f2⟩:=hX2.facts;have hz2:w.heap.size<w2.heap.size:=Blk.lt hX2))
 rotate_left;have hX1':=hX2;have hbA:aF w w2:=aJ;clear hX1 hR1 gg hb1 hb2;rotate_left;obtain⟨w2,rfl⟩:∃ x:World,x=w1:=⟨_,rfl⟩;have hX1':=hX1;have hR2:=hR1;have gg2:=gg;have hz2:=hz1;have hbA:aF w w2:=aJ;clear hX1 hR1 gg hb1;all_goals
  clear x0 x1 x2 f0 f1 f2;have HRd:=aA hR2;have hpb:pb<w2.heap.size:=bu gg2;have hB0:JA (w2.alloc (.cells #[.string l0,.slice none 0 0,.bool false] 166)) w2.heap.size l0 (.slice none 0 0) false:=World.alloc_heap_new _ _;have hP0:JA (w2.alloc (.cells #[.string l0,.slice none 0 0,.bool false] 166)) w.heap.size ⟨#[]⟩ (.slice none 0 0) false:=(Below.heap_alloc _ _ _ hz2).trans hX1';clear hR2 gg2 hX1';go_loopw [6] (fun vi wr=>∃(k:Nat)(acc:List bI)(A':Option Addr)(c':Nat)(tl:Bool),(vi=.int .i64 ((k:Int)+1)/\k<=m/\acc.length<=k)/\Hid (SG r k acc tl)/\JA wr w2.heap.size l0 (.slice A' acc.length c') tl/\JA wr w.heap.size ⟨#[]⟩ (.slice none 0 0) false /\
    wr.ownsRow (w2.heap.size+1) 9 1 (.slice A' acc.length c') acc.length ((dX acc).map .string)/\aF w wr/\(∀ j,j<w2.heap.size->wr.heap[j]? = w2.heap[j]?)/\w2.heap.size+1<=wr.heap.size) (fun vi _=>m+1-(intOf vi).toNat)
  case atStart=>exact⟨0,[],none,0,false,⟨rfl,Nat.zero_le _,Nat.le_refl _⟩,aA (.inl ⟨rfl,aH⟩),hB0,hP0,World.ownsRow_nil _ _ _ _,aJ,fun j hj=>Below.heap_alloc _ _ _ hj,aH⟩
  case round =>
   clear hB0 hP0;obtain⟨k,acc,A',c',tl,⟨rfl,hk,hak⟩,HC,hB,hP,hown,hbw,hFr,hzr⟩:=hrel;obtain⟨x0,x1,x2,f0,f1,f2⟩:=hP.facts;obtain⟨y0,y1,y2,g0,g1,g2⟩:=hB.facts;by_cases hlt:k<m
   ·obtain⟨p,hp⟩:∃ p,r[k]? = some p:=⟨_,List.getElem?_eq_getElem (by have:=HM.out;omega)⟩;have hps:=HSZ.out p (List.mem_of_getElem? hp);have hcell:wr.cell? ⟨pb,po+(k+1),none⟩=some (.string p):=by
     obtain⟨b',o',e',hc'⟩:=HRd.out.2 aB;injection e' with e';injection e' with e1 e2;subst e1;subst e2
     have:=hc' (k+1) (.string p) oV;exact (World.cell?_of_block (hFr pb hpb)).trans this
    obtain⟨rfl,hcmp⟩:tl=false/\dK r []=dK (r.drop k) acc:=by
     rcases HC.out with h | ⟨_,h,_⟩
     ·exact h
     ·exfalso;have:=HM.out;omega
    have hd2:r.drop k=p :: r.drop (k+1):=by
     exact AC
    rw[hd2,dK]at hcmp;have hemp:(r.drop (k+1)).isEmpty=decide (k+1=m):=by
     have:=HM.out;by_cases h:k+1=m
     ·rw[List.drop_eq_nil_of_le aB];simp[h]
     ·simp[h];omega
    rw[hemp]at hcmp;have hk0:(0:Int)<=(k:Int)+1:=aB;have hkm:(k:Int)+1<(m:Int)+1:=aB;clear hd2 hemp hp HC HRd;have cP:=fun W=>aIl p W aB
    rw[aIn]at cP;cases h2s:(p.toList == [42,42])
    ·simp only[h2s,Bool.false_and,Bool.false_eq_true,if_false]at hcmp;cases hok:kP p
     ·have HNO:Hid (dK r []=none):=aA (by rw[hcmp,hok];rfl);rw[hok]at cP;have HP:=aA cP;clear hcmp cP hok;exact aEk
     ·have HSO:Hid (dK r []=dK (r.drop (k+1)) (acc++[dG p])):=aA (by rw[hcmp,hok];rfl);have HSL:=aA (aIo acc p hok);rw[hok]at cP;have HP:=aA cP;clear hcmp cP hok;go_wp2_with (go_at_call 189;refine (HP.out _).mono ?_;rintro e w4 ⟨rfl,hb4⟩;have hP4:JA w4 w.heap.size ⟨#[]⟩ (.slice none 0 0) false:=Blk.keep hP hb4;have hB4:JA w4 w2.heap.size l0 (.slice A' acc.length c') false:=Blk.keep hB hb4;have hown4:=fZ hown hb4;have hbw4:=aV hbw hb4;have hFr4:∀ j,j<w2.heap.size->w4.heap[j]? = w2.heap[j]?:=(fun j q1=>(hb4.block j aB).trans (hFr j q1));have hzr4:w2.heap.size+1<=w4.heap.size:=Nat.le_trans hzr hb4.size;have hcell4:=aW hb4 hcell;clear x0 x1 x2 f0 f1 f2 y0 y1 y2 g0 g1 g2;obtain⟨x0,x1,x2,f0,f1,f2⟩:=hP4.facts;obtain⟨y0,y1,y2,g0,g1,g2⟩:=hB4.facts);have hown4d:w4.drew.ownsRow (w2.heap.size+1) 9 1 (.slice A' acc.length c') acc.length ((dX acc).map .string):=hown4;have y1d:w4.drew.cell? ⟨w2.heap.size,1,none⟩=some (.slice A' acc.length c'):=y1;have hcd:w4.drew.cell? ⟨pb,po+(k+1),none⟩=some (.string p):=hcell4;have hzz:w2.heap.size<w4.heap.size:=aB;have hzp:pb<w4.heap.size:=aB;have y1e:(w4.alloc (.cells #[.string p] 9)).cell? ⟨w2.heap.size,1,none⟩=some (.slice A' acc.length c'):=(World.cell?_of_block (Below.heap_alloc w4 _ _ hzz)).trans y1;go_region_law ((refine step_append_lies _ bC _ _ _ bC (w2.heap.size+1) 9 i0 (.string ⟨#[]⟩) 1 16 underlying24 HI.out.1 HI.out.2.1 HI.out.2.2.1 HI.out.2.2.2 bC aB (.slice A' acc.length c') acc.length ((dX acc).map .string) bC (hown4d.alloc _) ⟨w4.heap.size,0,none⟩ 1 1 [.string p] bC bC (World.news_of_block (cs:=#[.string p]) (t:=9) (fr:=(0,0)) (World.alloc_heap_new w4.drew _)) jJ aB dh aB aP (w4.heap.size+1) aH ?_;intro gg cap w7 hown7 hgrow hat hlt7;have hB7:JA w7 w2.heap.size l0 (.slice A' acc.length c') false:=(hgrow.block w2.heap.size aP (fun e=>aDk)).trans ((Below.heap_alloc w4.drew _ w2.heap.size (show w2.heap.size<w4.heap.size by omega)).trans hB4);clear y0 y1 y2 g0 g1 g2;obtain⟨y0,y1,y2,g0,g1,g2⟩:=hB7.facts));all_goals go_wp2
      all_goals
       have hal:(acc++[dG p]).length=acc.length+1:=aH;have hb7:aF w w7:=((Below.drew hbw4).alloc hbw4.size _).grown hgrow (by have:=hbw4.size;simp;omega) (fun r e=>by have:=fE hown4 r e;omega);have hP7:JA w7 w.heap.size ⟨#[]⟩ (.slice none 0 0) false:=(hgrow.block w.heap.size aP (fun e=>aDk)).trans ((Below.heap_alloc w4.drew _ _ (show w.heap.size<w4.heap.size by omega)).trans hP4);refine⟨⟨k+1,acc++[dG p],some ⟨gg,0,none⟩,cap,false,⟨bg,aB,aP⟩,aA (.inl ⟨rfl,HSO.out⟩),by rw[hal];exact Blk.set_ hB7 1 _,(Below.heap_setCell _ _ _ _ aP).trans hP7,by rw[hal,HSL.out,List.map_append];exact rX hown7 (fun j hj=>Below.heap_setCell _ _ _ _ aP),hb7.setCell (p:=⟨w2.heap.size,1,none⟩) aP _,fun j q1=>(Below.heap_setCell _ _ _ _ aP).trans ((hgrow.block j aP (fun e=>aDk)).trans ((Below.heap_alloc w4.drew _ j (show j<w4.heap.size by omega)).trans (hFr4 j q1))),Gs⟩,dD⟩
    ·obtain rfl:p=⟨#[42,42]⟩:=fK (by rw[<-Lib.toList_data];simpa using h2s);by_cases hlast:k+1=m
     ·obtain rfl:m=k+1:=hlast.symm;have hlb:((k:Int)+1==((k+1:Nat):Int))=true:=aH;rw[h2s,show decide (k+1=k+1)=true by simp]at hcmp;simp only[Bool.and_self,if_true]at hcmp;have HH:=aA hcmp;clear hcmp cP;go_wp2;exact⟨⟨k+1,acc,A',c',true,⟨bg,aB,aB⟩,aA (.inr ⟨rfl,HM.out,HH.out⟩),Blk.set_ hB 2 (.bool true),(Below.heap_setCell _ _ _ _ wK).trans hP,rX hown (fun j hj=>Below.heap_setCell _ _ _ _ wK),hbw.setCell (p:=⟨w2.heap.size,2,none⟩) wK _,
       fun j q1=>(Below.heap_setCell _ _ _ _ wK).trans (hFr j q1),by first | (simp[World.setCell];done) | (simp[World.setCell];omega)⟩,dD⟩
     ·have hlb:((k:Int)+1==(m:Int))=false:=aP;have HNO:Hid (dK r []=none):=aA (by rw[hcmp,show decide (k+1=m)=false by simpa using hlast,SH];simp);rw[SH]at cP;have HP:=aA cP;clear hcmp cP;exact aEk
   ·obtain rfl:k=m:=aB;have HE:Hid (dK r []=some (acc,tl)):=aA (by
     rcases HC.out with ⟨h,e⟩ | ⟨h,_,e⟩
     ·rw[e,h,HM.out,List.drop_eq_nil_of_le (Nat.le_refl _),dK]
     ·rw[e,h])
    have hob:∀ a,A'=some a->a.block≠w.heap.size:=fun a ha=>xX
    have hRr:=aI.of_own hown;clear HC;go_wp2;rw[<-HV.out,HV2.out,HE.out];exact bodyPost_ret (v:=.tuple #[.agg #[.string l0,.slice A' acc.length c',.bool tl],.bool true]) aDl rfl ⟨aJ,A',c',by rw[HST.out],(((hRr.set_ _ _ hob).set_ _ _ hob).set_ _ _ hob)⟩
theorem aCo.any_{r:Option Pat}{w w':World}{e:Ending}(h:aCo r w e w'):aF w w'/\∃(c:aC)(A:Option Addr)(n k:Nat)(t:Bool),e=.returned (.tuple #[.agg #[.string c,.slice A n k,.bool t],.bool r.isSome]):=by
 obtain⟨hb,h⟩:=h;cases r with
 | none=>exact⟨hb,_,none,0,0,_,h⟩
 | some x=>obtain⟨A,c,h,_⟩:=h;exact⟨hb,_,A,_,c,_,h⟩
theorem aIq(s:aC)(w:World)(hs:s.size<=100000):Calls prog 66 #[.string s] w (Ret w (.bool (dI s).isSome)):=by
 have cC:=fun W=>(aIp s W hs).mono (fun e w' h=>h.any_)
 generalize (dI s).isSome=b at *;have HC:=aA cC;clear cC;go_enter func66,ntmps66;go_wp2_with (go_at_call 130;refine (HC.out _).mono ?_;rintro e w1 ⟨hb1,c,A,n,k,t,rfl⟩);go_ret;exact⟨rfl,aJ⟩
theorem aDm{α:Type}(lt:α->α->Bool)(right:α->Bool)(l:List α)(k:Nat):okK lt right l k=((match l[k]? with
  | none=>true
  | some x=>right x)&&okK lt (fun _=>true) l k):=by
 unfold okK
 cases l[k]? <;> simp
theorem aEl(right:aC->Bool)(most:Nat)(l:List aC):iU ltB right most l=(decide (l.length<=most)&&l.all right&&CB l):=by
 unfold iU CB;rw[Bool.eq_iff_iff];simp only[Bool.and_eq_true,decide_eq_true_eq,List.all_eq_true];constructor
 ·rintro⟨h1,h2⟩;refine⟨⟨h2,fun x hx=>?_⟩,fun k hk=>?_⟩
  ·obtain⟨k,hk,rfl⟩:=List.getElem_of_mem hx;have:=h1 k (by simpa using hk);rw[aDm,List.getElem?_eq_getElem hk,Bool.and_eq_true]at this;exact this.1
  ·have:=h1 k hk;rw[aDm,Bool.and_eq_true]at this;exact this.2
 ·rintro⟨⟨h1,h2⟩,h3⟩;refine⟨fun k hk=>?_,h1⟩;rw[aDm,Bool.and_eq_true];refine⟨?_,h3 k hk⟩;have hk':k<l.length:=by simpa using hk
  rw[List.getElem?_eq_getElem hk'];exact h2 _ (List.getElem_mem hk')
def IM(l:List Int):Bool:=(List.range l.length).all (okK ltI jb l)
theorem aIr{l:List Int}{k:Nat}(hk:k<l.length)(h2:okK ltI jb l k=false):IM l=false:=by
 unfold IM;rw[List.all_eq_false];exact⟨k,by simpa using hk,by rw[h2];simp⟩
theorem aIs(c:aY):bF c=(BK c&&gY c.pat&&decide (c.cl.length<=32)&&decide (c.co.length<=32)&&decide (c.si.length<=64)&&(c.cl.all bU&&c.co.all iV&&IM c.si&&CB c.cl&&CB c.co)):=by
 unfold bF;rw[aEl,aEl];have h3:iU ltI jb 64 c.si=(IM c.si&&decide (c.si.length<=64)):=rfl;rw[h3];generalize BK c=a1;generalize gY c.pat=a2;generalize decide (c.cl.length<=32)=a3;generalize decide (c.co.length<=32)=a4;generalize decide (c.si.length<=64)=a5;generalize c.cl.all bU=a6;generalize c.co.all iV=a7;generalize IM c.si=a8;generalize CB c.cl=a9;generalize CB c.co=a10;revert a1 a2 a3 a4 a5 a6 a7 a8 a9 a10;decide
theorem aCb(c:aY)(m:ae)(w:World)(hR:dA w c m)(hp:c.pat.size<=100000)(hcl:∀ x∈c.cl,x.size<=100000)(hco:∀ x∈c.co,x.size<=100000)(h1:c.cl.length<=1000000)(h2:c.co.length<=1000000)(h3:c.si.length<=1000000) :
  Calls prog 32 #[ae.val c m] w (Ret w (.bool (bF c))):=by
 obtain⟨fr,till,pat,cl,co,si,us⟩:=c;obtain⟨A,ca,B,cb,S,cs⟩:=m;obtain⟨hA,hB,hS⟩:=hR;dsimp only at hA hB hS hp hcl hco h1 h2 h3;unfold ae.val;dsimp only;obtain⟨V,hV⟩:∃ V,V=bF ⟨fr,till,pat,cl,co,si,us⟩:=⟨_,rfl⟩;rw[<-hV];rw[aIs]at hV;unfold BK gY at hV;dsimp only at hV;have hva:=fun W=>aIq pat W hp
 have hna:=fun x (hx:x∈cl) W=>aDa x W (by have:=hcl x hx;omega)
 have hcy:=fun x (hx:x∈co) W=>aIh x W (by have:=hco x hx;omega)
 have Fe:=fun W (hb:aF w W)=>aEi A cl.length ca cl W (hA.keep hb) aB
 have Ff:=fun W (hb:aF w W)=>aEi B co.length cb co W (hB.keep hb) aB
 generalize (dI pat).isSome=b1 at *;obtain⟨na,hna0⟩:∃ na,na=cl.length:=⟨_,rfl⟩;obtain⟨nb,hnb0⟩:∃ nb,nb=co.length:=⟨_,rfl⟩;obtain⟨ns,hns0⟩:∃ ns,ns=si.length:=⟨_,rfl⟩;rw[<-hna0]at hA hV h1 Fe ⊢;rw[<-hnb0]at hB hV h2 Ff ⊢;rw[<-hns0]at hS hV h3 ⊢;have HVA:=aA hva;have HNA:=aA hna;have HCY:=aA hcy;have HAS1:=aA Fe;have HAS2:=aA Ff;have HA:=aA hA;have HB:=aA hB;have HS:=aA hS;have HLA:=aA hna0;have HLB:=aA hnb0;have HLS:=aA hns0;clear hva hna hcy Fe Ff hA hB hS hna0 hnb0 hns0 hcl hco hp;by_cases t1:0<=fr;rotate_left
 ·obtain rfl:V=false:=by rw[hV];simp[t1]
  have d1:decide (fr<0)=true:=decide_eq_true aB;clear hV;exact XC
 have d1:decide (fr<0)=false:=decide_eq_false aB;by_cases t2:fr<=1099511627776;rotate_left
 ·obtain rfl:V=false:=by rw[hV];simp[t2]
  have d2:decide (1099511627776<fr)=true:=decide_eq_true aB;clear hV;exact XC
 have d2:decide (1099511627776<fr)=false:=decide_eq_false aB;by_cases t3:0<=till;rotate_left
 ·obtain rfl:V=false:=by rw[hV];simp[t3]
  have d3:decide (till<0)=true:=decide_eq_true aB;clear hV;exact XC
 have d3:decide (till<0)=false:=decide_eq_false aB;by_cases t4:till<=1099511627777;rotate_left
 ·obtain rfl:V=false:=by rw[hV];simp[t4]
  have d4:decide (1099511627777<till)=true:=decide_eq_true aB;clear hV;exact XC
 have d4:decide (1099511627777<till)=false:=decide_eq_false aB;by_cases t5:0<=us;rotate_left
 ·obtain rfl:V=false:=by rw[hV];simp[t5]
  have d5:decide (us<0)=true:=decide_eq_true aB;clear hV;exact XC
 have d5:decide (us<0)=false:=decide_eq_false aB;by_cases t6:us<=1073741824;rotate_left
 ·obtain rfl:V=false:=by rw[hV];simp[t6]
  have d6:decide (1073741824<us)=true:=decide_eq_true aB;clear hV;exact XC
 have d6:decide (1073741824<us)=false:=decide_eq_false aB;have hV2:V=((decide (pat.size=0)||b1)&&decide (na<=32)&&decide (nb<=32)&&decide (ns<=64)&&(cl.all bU&&co.all iV&&IM si&&CB cl&&CB co)):=by rw[hV];simp[t1,t2,t3,t4,t5,t6]
 clear hV;have hpc:(pat.size=0/\pat.toList=[]/\(pat.toList != [])=false)\/(pat.size≠0/\¬ pat.toList=[]/\(pat.toList != [])=true):=by
  by_cases h:pat.size=0
  ·have e:pat.toList=[]:=aEm;exact .inl ⟨h,e,by rw[e];rfl⟩
  ·have e:¬ pat.toList=[]:=fun e=>h zu
   exact .inr ⟨h,e,by simpa using e⟩
 have hb1:(pat.size≠0/\b1=false)\/(pat.size=0\/b1=true):=by
  by_cases h:pat.size=0
  ·exact .inr (.inl h)
  ·cases b1
   ·exact .inl ⟨h,rfl⟩
   ·exact .inr (.inr rfl)
 rcases hb1 with ⟨hs,rfl⟩ | hb1
 ·rcases hpc with ⟨hs2,_⟩ | ⟨_,hn,hn2⟩
  ·exact absurd hs2 hs
  obtain rfl:V=false:=by rw[hV2];simp[hs]
  clear hV2 hs;exact XC
 have hV3:V=(decide (na<=32)&&decide (nb<=32)&&decide (ns<=64)&&(cl.all bU&&co.all iV&&IM si&&CB cl&&CB co)):=by
  rw[hV2];rcases hb1 with h | h <;> simp[h]
 clear hV2;have hpd:(pat.toList=[]/\(pat.toList != [])=false)\/(b1=true/\¬ pat.toList=[]/\(pat.toList != [])=true):=by
  rcases hpc with ⟨h1,h2⟩ | ⟨h1,h2⟩
  ·exact .inl h2
  ·rcases hb1 with h | h
   ·exact absurd h h1
   ·exact .inr ⟨h,h2⟩
 clear hpc hb1;rcases hpd with ⟨hn,hn2⟩ | ⟨rfl,hn,hn2⟩
 all_goals
  by_cases t7:na<=32;rotate_left
  ·obtain rfl:V=false:=by rw[hV3];simp[t7]
   have d7:decide ((32:Int)<(na:Int))=true:=decide_eq_true aB;clear hV3;exact XC
  have d7:decide ((32:Int)<(na:Int))=false:=decide_eq_false aB;by_cases t8:nb<=32;rotate_left
  ·obtain rfl:V=false:=by rw[hV3];simp[t8]
   have d8:decide ((32:Int)<(nb:Int))=true:=decide_eq_true aB;clear hV3;exact XC
  have d8:decide ((32:Int)<(nb:Int))=false:=decide_eq_false aB;by_cases t9:ns<=64;rotate_left
  ·obtain rfl:V=false:=by rw[hV3];simp[t9]
   have d9:decide ((64:Int)<(ns:Int))=true:=decide_eq_true aB;clear hV3;exact XC
  have d9:decide ((64:Int)<(ns:Int))=false:=decide_eq_false aB;have hv4:V=(cl.all bU&&co.all iV&&IM si&&CB cl&&CB co):=by rw[hV3];simp[t7,t8,t9]
  have HV:=aA hv4;clear hV3 hv4;go_enter func32,ntmps32;go_wp2_with (go_at_call 66;refine (HVA.out _).mono ?_;rintro e w2 ⟨rfl,hb2⟩;(have hX2:aX w2 w.heap.size fr till pat A na ca B nb cb S ns cs us:=aEn;obtain⟨x0,x1,x2,x3,x4,x5,x6⟩:=hX2.facts));go_loopw [3] (fun vi wr=>∃ k:Nat,vi=.int .i64 k/\k<=na/\Hid ((cl.take k).all bU=true)/\aX wr w.heap.size fr till pat A na ca B nb cb S ns cs us/\aF w wr) (fun i _=>na-(intOf i).toNat)
  case atStart=>exact⟨0,rfl,Nat.zero_le _,aA aH,(by first | exact hX2 | exact World.alloc_heap_new _ _),aJ⟩
  case round =>
   try clear hX2
   try clear hb2
   clear d1 d2 d3 d4 d5 d6 d7 d8 d9 hn hn2;obtain⟨k,rfl,hk,HK,hX,hbr⟩:=hrel;obtain⟨x0,x1,x2,x3,x4,x5,x6⟩:=hX.facts;by_cases hlt:k<na
   ·obtain⟨x,hx⟩:∃ x,cl[k]? = some x:=⟨_,List.getElem?_eq_getElem (by have:=HLA.out;omega)⟩;obtain⟨b,o,rfl,hcell⟩:=(HA.out.keep hbr).2 aB;have hc1:wr.cell? ⟨b,o+k,none⟩=some (.string x):=hcell k _ gB;have hk0:(0:Int)<=(k:Int):=aB;have hk1:(k:Int)<(na:Int):=aB;have cN:=HNA.out x (List.mem_of_getElem? hx);cases hs:bU x
    ·obtain rfl:V=false:=by rw[HV.out,aCi hx hs];rfl
     rw[hs]at cN;have HC:=aA cN;clear hcell hx HK hs cN;go_wp2_with (go_at_call 50;refine (HC.out _).mono ?_;rintro e w2 ⟨rfl,hb2⟩);go_ret;exact⟨rfl,aJ⟩
    ·have HK2:Hid ((cl.take (k+1)).all bU=true):=aA (aCh HK.out hx hs);rw[hs]at cN;have HC:=aA cN;clear hcell hx HK hs cN;go_wp2_with (go_at_call 50;refine (HC.out _).mono ?_;rintro e w2 ⟨rfl,hb2⟩);exact⟨⟨k+1,bg,aB,HK2,Blk.keep hX hb2,aJ⟩,dD⟩
   ·obtain rfl:k=na:=aB;have hall:cl.all bU=true:=by
     have:=HK.out
     rwa [List.take_of_length_le (by have:=HLA.out;omega)]at this
    have hv5:V=(co.all iV&&IM si&&CB cl&&CB co):=by rw[HV.out,hall,Bool.true_and]
    have HV2:=aA hv5;clear hall hv5 HK HV HNA;go_wp2;clear x0 x1 x2 x3 x4 x5 x6;obtain⟨wo,rfl⟩:∃ wo:World,wo=wr:=⟨_,rfl⟩;go_loopw [4] (fun vi wz=>∃ j:Nat,vi=.int .i64 j/\j<=nb/\Hid ((co.take j).all iV=true)/\aX wz w.heap.size fr till pat A k ca B nb cb S ns cs us/\aF w wz) (fun i _=>nb-(intOf i).toNat)
    case atStart=>exact⟨0,rfl,Nat.zero_le _,aA aH,hX,hbr⟩
    case round =>
     clear hX hbr;obtain⟨j,rfl,hj,HJ,hX,hbr⟩:=hrel;obtain⟨x0,x1,x2,x3,x4,x5,x6⟩:=hX.facts;by_cases hlt2:j<nb
     ·obtain⟨x,hx⟩:∃ x,co[j]? = some x:=⟨_,List.getElem?_eq_getElem (by have:=HLB.out;omega)⟩;obtain⟨b,o,rfl,hcell⟩:=(HB.out.keep hbr).2 aB;have hc1:wr.cell? ⟨b,o+j,none⟩=some (.string x):=hcell j _ gB;have hj0:(0:Int)<=(j:Int):=aB;have hj1:(j:Int)<(nb:Int):=aB;have cN:=HCY.out x (List.mem_of_getElem? hx);cases hs:iV x
      ·obtain rfl:V=false:=by rw[HV2.out,aCi hx hs];rfl
       rw[hs]at cN;have HC:=aA cN;clear hcell hx HJ hs cN;go_wp2_with (go_at_call 67;refine (HC.out _).mono ?_;rintro e w2 ⟨rfl,hb2⟩);go_ret;exact⟨rfl,aJ⟩
      ·have HJ2:Hid ((co.take (j+1)).all iV=true):=aA (aCh HJ.out hx hs);rw[hs]at cN;have HC:=aA cN;clear hcell hx HJ hs cN;go_wp2_with (go_at_call 67;refine (HC.out _).mono ?_;rintro e w2 ⟨rfl,hb2⟩);exact⟨⟨j+1,bg,aB,HJ2,Blk.keep hX hb2,aJ⟩,dD⟩
     ·obtain rfl:j=nb:=aB;have hall:co.all iV=true:=by
       have:=HJ.out
       rwa [List.take_of_length_le (by have:=HLB.out;omega)]at this
      have hv6:V=(IM si&&CB cl&&CB co):=by rw[HV2.out,hall,Bool.true_and]
      have HV3:=aA hv6;clear hall hv6 HJ HV2 HCY;go_wp2;clear x0 x1 x2 x3 x4 x5 x6;obtain⟨wo2,rfl⟩:∃ wo2:World,wo2=wr:=⟨_,rfl⟩;go_loopw [5] (fun vi wz=>∃ i:Nat,vi=.int .i64 i/\i<=ns/\Hid ((List.range i).all (okK ltI jb si)=true)/\aX wz w.heap.size fr till pat A k ca B j cb S ns cs us/\aF w wz) (fun i _=>ns-(intOf i).toNat)
      case atStart=>exact⟨0,rfl,Nat.zero_le _,aA rfl,hX,hbr⟩
      case round =>
       clear hX hbr;obtain⟨i,rfl,hi,HI,hX,hbr⟩:=hrel;obtain⟨x0,x1,x2,x3,x4,x5,x6⟩:=hX.facts;by_cases hlt3:i<ns
       ·obtain⟨x,hx⟩:∃ x,si[i]? = some x:=⟨_,List.getElem?_eq_getElem (by have:=HLS.out;omega)⟩;obtain⟨b,o,rfl,hcell⟩:=(HS.out.keep hbr).2 aB;have hc1:wr.cell? ⟨b,o+i,none⟩=some (.int .i64 x):=hcell i _ gB;have hi0:(0:Int)<=(i:Int):=aB;have hi1:(i:Int)<(ns:Int):=aB;have hok:okK ltI jb si i=(jb x&&(i==0||(match si[i-1]? with
         | none=>true
         | some y=>ltI y x))):=by unfold okK;rw[hx];cases si[i-1]? <;> rfl
        have hfail:okK ltI jb si i=false->V=false:=fun h=>by rw[HV3.out,aIr (by have:=HLS.out;omega) h];rfl
        by_cases s0:0<=x;rotate_left
        ·obtain rfl:V=false:=hfail (by rw[hok];unfold jb;simp[s0]);have e0:decide (x<0)=true:=decide_eq_true aB;clear hcell hx HI hok hfail;exact aCm
        have e0:decide (x<0)=false:=decide_eq_false aB;by_cases s1:x<64;rotate_left
        ·obtain rfl:V=false:=hfail (by rw[hok];unfold jb;simp[s1]);have e1:decide (64<=x)=true:=decide_eq_true aB;clear hcell hx HI hok hfail;exact aCm
        have e1:decide (64<=x)=false:=decide_eq_false aB;have hsx:jb x=true:=decide_eq_true ⟨s0,s1⟩;rw[hsx,Bool.true_and]at hok;rcases i with _ | i
        ·have HI2:Hid ((List.range (0+1)).all (okK ltI jb si)=true):=aA (yK HI.out (by rw[hok];rfl));simp only[Nat.add_zero]at hc1;clear hcell hx HI hok hfail;go_wp2_with fail;go_quiet (fail);go_wp2;exact⟨⟨1,bg,aB,HI2,Blk.keep hX aJ,aJ⟩,dD⟩
        ·obtain⟨y,hy⟩:∃ y,si[i]? = some y:=⟨_,List.getElem?_eq_getElem (by have:=HLS.out;omega)⟩;have hc2:wr.cell? ⟨b,o+i,none⟩=some (.int .i64 y):=hcell i _ qH;have hle:=Uw x y;rw[Nat.add_sub_cancel,hy]at hok;have hok2:okK ltI jb si (i+1)=ltI y x:=by rw[hok];simp
         have hii0:(0:Int)<=(i:Int):=aB;have hii1:(i:Int)<(ns:Int):=aB;cases ht:ltI y x
         ·obtain rfl:V=false:=hfail (by rw[hok2,ht]);rw[ht]at hle;clear hcell hx HI hok hok2 hfail hy ht;exact aCm
         ·have HI2:Hid ((List.range (i+1+1)).all (okK ltI jb si)=true):=aA (yK HI.out (by rw[hok2,ht]));rw[ht]at hle;clear hcell hx HI hok hok2 hfail hy ht;go_wp2_with fail;go_quiet (fail);go_wp2;exact⟨⟨i+1+1,bg,aB,HI2,Blk.keep hX aJ,aJ⟩,dD⟩
       ·obtain rfl:i=ns:=aB;have hall:IM si=true:=by
         unfold IM;rw[<-HLS.out];exact HI.out
        have hv7:V=(CB cl&&CB co):=by rw[HV3.out,hall,Bool.true_and]
        have c1:=HAS1.out;have c2:=HAS2.out;obtain⟨a1,ha1⟩:∃ x,x=CB cl:=⟨_,rfl⟩;obtain⟨a2,ha2⟩:∃ x,x=CB co:=⟨_,rfl⟩;rw[<-ha1]at hv7 c1;rw[<-ha2]at hv7 c2;clear hall HI HV3 HAS1 HAS2 ha1 ha2;cases a1
        ·obtain rfl:V=false:=hv7;have C1:=aA c1;clear c1 c2;go_wp2_with (go_at_call 68;refine (C1.out _ aJ).mono ?_;rintro e w2 ⟨rfl,hb2⟩);go_ret;exact⟨rfl,aJ⟩
        ·obtain rfl:V=a2:=hv7;have C1:=aA c1;have C2:=aA c2;clear c1 c2;go_wp2_with (go_at_call 68;first | (refine (C1.out _ aJ).mono ?_;clear C1;rintro e w2 ⟨rfl,hb2⟩;have hX2:=Blk.keep hX hb2;obtain⟨y0,y1,y2,y3,y4,y5,y6⟩:=aX.facts hX2) | (refine (C2.out _ aJ).mono ?_;rintro e w3 ⟨rfl,hb3⟩));go_ret;exact⟨rfl,aJ⟩
def aBt(d:Nat):aC:=⟨#[UInt8.ofNat (48+d)]⟩
theorem aEo(d:Nat):(aBt d).size=1:=rfl
theorem aEp(W:World)(d c:Nat)(hd:d<10)(g:Nat)(hg:g=W.heap.size)(a:Int)(ha:a=48+(d:Int)) :
  (convert 105 9 (.slice (some ⟨g,0,none⟩) 1 c)).run prog (W.alloc (.cells #[.int .u8 a] 5))=.ok (.string (aBt d)) (W.alloc (.cells #[.int .u8 a] 5)):=by
 subst hg;subst ha;have hx:Blk (W.alloc (.cells #[.int .u8 (48+(d:Int))] 5)) W.heap.size 5 #[.int .u8 (48+(d:Int))] (0,0):=World.alloc_heap_new _ _;refine run_convert_bytes_back _ _ _ 5 ⟨W.heap.size,0,none⟩ c [UInt8.ofNat (48+d)] underlying105 underlying5 underlying9 (fun j hj=>?_);have e1:=aIf (48+d) aB;rw[show (⟨W.heap.size,0,none⟩:Addr).add j=⟨W.heap.size,0+j,none⟩ by unfold Addr.add;split <;> simp_all];rcases j with _ | j
 ·have:=hx.cell 0;simp only[List.getElem_cons_zero];rw[e1];simp
 ·simp at hj
theorem aIt(m:Nat)(h:¬ m<10)(t:aC):(⟨(Lib.decDigits (m / 10)).toArray⟩:aC)++(aBt (m % 10)++t)=(⟨(Lib.decDigits m).toArray⟩:aC)++t:=by
 refine fK ?_
 conv=>rhs;rw[Lib.decDigits,dif_neg h]
 simp[aBt]
theorem aIu(m:Nat)(h:m<10):aBt m=⟨(Lib.decDigits m).toArray⟩:=by
 rw[Lib.decDigits,dif_pos h];rfl
theorem aCp(n:Nat)(w:World)(hn:n<=9223372036854775807):Calls prog 59 #[.int .i64 (n:Int)] w (Ret w (.string (ai (n:Int)))):=by
 have hI:ai (n:Int)=⟨(Lib.decDigits n).toArray⟩:=fK (by rw[yO _ aB];simp);rw[hI];clear hI;have hlen:(Lib.decDigits n).length<=20:=by rw[Lib.decDigits_length];exact Lib.nDigits_le20 n aB
 go_enter func59,ntmps59;go_wp2;go_loopw [0,3] (fun vn vo wr=>∃(m:Nat)(t:aC),vn=.int .i64 (m:Int)/\vo=.string t/\m<=9223372036854775807/\Hid ((⟨(Lib.decDigits m).toArray⟩:aC)++t=⟨(Lib.decDigits n).toArray⟩)/\aF w wr) (fun i _ _=>(intOf i).toNat)
 case atStart=>exact⟨n,⟨#[]⟩,rfl,rfl,hn,aA (fK aH),Below.refl _ _⟩
 case round =>
  obtain⟨m,t,rfl,rfl,hm,HK,hbr⟩:=hrel;have hts:t.size<=20:=by
   have h1:=congrArg (fun x:aC=>x.data.toList.length) HK.out;simp at h1;have:t.size=t.data.size:=rfl;omega
  by_cases hlt:m<10
  ·have hcv:=fun c=>aEp wr m c hlt wr.heap.size rfl _ rfl
   have hv:aBt m++t=⟨(Lib.decDigits n).toArray⟩:=by rw[aIu m hlt];exact HK.out
   have HV:=aA hv;have d1:decide ((10:Int)<=(m:Int))=false:=decide_eq_false aB;have b1:(m:Int)<=9:=aB;have z1:=aEo m;have n1:¬ 9223372036854775807<1+t.size:=aB;clear HK hv;go_wp2;go_ret;exact⟨Qb HV.out,aJ⟩
  ·have hcv:=fun c=>aEp wr (m % 10) c aB wr.heap.size rfl (48+(m:Int) % 10) aB
   have HV:=aA ((aIt m hlt t).trans HK.out);have d1:decide ((10:Int)<=(m:Int))=true:=decide_eq_true aB;have b3:(m:Int) % 10<=9:=aB;have b4:0<=(m:Int) % 10:=aB;have z1:=aEo (m % 10);have n1:¬ 9223372036854775807<1+t.size:=aB;clear HK;go_wp2;exact⟨⟨m / 10,_,bg,rfl,aB,HV,aJ⟩,dD⟩
def aCc(l:List aC):aC:=if l=[] then ⟨#[126]⟩ else jr l
theorem aDn{l:List aC}(h:∀ x∈l,x.size≠0):aCc l=dn l:=by
 unfold aCc dn orT;cases l with
 | nil=>rfl
 | cons x r =>
  obtain⟨b,t,hb,he⟩:=Vg (r:=r) (h x aH);have hs:¬ (jr (x :: r)).size=0:=by rw[Lib.size_eq,he];simp
  rw[if_neg aH,if_neg hs]
theorem aDo(A:Option Addr)(n c:Nat)(l:List aC)(w:World)(hR:aI w 1 A n (l.map .string))(hn:n<=1000000)(htot:(Lib.join (az l) [44]).length<=1000000000)(hsz:∀ x∈l,x.size<=1000000000):Calls prog 190 #[.slice A n c] w (Ret w (.string (aCc l))):=by
 have hl:l.length=n:=zY;obtain⟨V,hV⟩:∃ V,V=aCc l:=⟨_,rfl⟩;rw[<-hV];unfold aCc at hV;by_cases h0:n=0
 ·subst h0;obtain rfl:l=[]:=List.eq_nil_of_length_eq_zero hl;obtain rfl:V=⟨#[126]⟩:=hV;go_enter func190,ntmps190;go_wp2;go_ret;exact⟨rfl,aJ⟩
 have hne:l ≠ []:=by intro e;rw[e]at hl;simp at hl;omega
 rw[if_neg hne]at hV;have hend:V=F6 l n:=by rw[hV,<-hl,aId];rfl
 obtain⟨x0,hx0⟩:∃ x,l[0]? = some x:=⟨_,List.getElem?_eq_getElem aB⟩;have hz0:((n:Int)==0)=false:=aP;have hfst:=aIa l x0 hx0;have HR:=aA hR;obtain⟨b0,o0,rfl,hcell0⟩:=hR.2 aB;have hc0:w.cell? ⟨b0,o0,none⟩=some (.string x0):=hcell0 0 _ (by simp[hx0]);have hn0:(0:Int)<(n:Int):=aB;have HL:=aA hl;have HE:=aA hend;have HT:=aA htot;have HS:=aA hsz;have HF:=aA hfst;clear hl hend htot hsz hR hV hne hcell0 hx0 hfst;go_enter func190,ntmps190;go_wp2;go_loopw [3,4] (fun vs vi wr=>∃ k:Nat,vi=.int .i64 (k+1:Nat)/\k+1<=n/\vs=.string (F6 l (k+1))/\aF w wr) (fun _ i _=>n-(intOf i).toNat)
 case atStart=>exact⟨0,rfl,aB,by rw[HF.out],Below.refl _ _⟩
 case round =>
  clear hc0;obtain⟨k,rfl,hk,rfl,hbr⟩:=hrel;by_cases hlt:k+1<n
  ·obtain⟨x,hx⟩:∃ x,l[k+1]? = some x:=⟨_,List.getElem?_eq_getElem gV⟩;obtain⟨b,o,hbo,hcell⟩:=(HR.out.keep hbr).2 aB;injection hbo with hbo
   injection hbo with e1 e2
   subst e1;subst e2;have hc1:wr.cell? ⟨b0,o0+(k+1),none⟩=some (.string x):=hcell (k+1) _ gB;have hz1:(F6 l (k+1)).size<=1000000000:=Nat.le_trans (aIc l (k+1)) HT.out;have hz2:x.size<=1000000000:=HS.out x (List.mem_of_getElem? hx);have hk0:(0:Int)<=(k:Int):=aB;have hk1:(k:Int)+1<(n:Int):=aB;have HJ:=aA (aIb l (k+1) x aB hx);generalize F6 l (k+1)=S at *;clear hcell hx;have n1:¬ 9223372036854775807<S.size+1:=aB;have n2:¬ 9223372036854775807<S.size+1+x.size:=aB;go_wp2;exact⟨⟨k+1,bg,aB,congrArg Value.string HJ.out,hbr⟩,dD⟩
  ·obtain rfl:k+1=n:=aB;have he:=HE.out;rw[<-he];go_wp2;go_ret;exact⟨rfl,hbr⟩
theorem aIv(c:aY):ai c.fr++⟨#[32]⟩++ai c.till++⟨#[32]⟩++orT c.pat ⟨#[126]⟩++⟨#[32]⟩++dn c.cl++⟨#[32]⟩++dn c.co++⟨#[32]⟩++dn (c.si.map ai)++⟨#[32]⟩++ai c.us=bK c:=by
 refine fK ?_;unfold bK kV;simp[Lib.join,Lib.join_cons,Lib.joinTail]
theorem aDp(l:List aC)(B:Nat)(h:∀ x∈l,x.size<=B):(Lib.join (az l) [44]).length<=l.length*(B+1):=by
 have:=Bc 44 B (az l) (by
  intro y hy;unfold az at hy;obtain⟨z,hz,rfl⟩:=List.mem_map.1 hy;have:=h z hz;rwa [Lib.size_eq]at this)
 rw[show (az l).length=l.length by simp[az]]at this;exact this
theorem aIw{s:aC}(h:iV s=true):s.size=2:=by
 unfold iV at h;simp only[Bool.and_eq_true,decide_eq_true_eq]at h;exact h.1
theorem aIx(c:aY)(m:ae)(w:World)(hR:dA w c m)(hc:dE c)(hv:bF c=true) :
  Calls prog 131 #[ae.val c m] w (Ret w (.agg #[.string (bK c),.int .i64 0])):=by
 have ok:=(mP c).1 hv;have c1:=fun W (hb:aF w W)=>hv▸aCb c m W (hR.keep hb) hc.p hc.cl hc.co hc.n1 hc.n2 hc.n3
 have hsi:∀ x∈c.si,0<=x/\x<64:=fun x hx=>by have:=ok.si x hx;unfold jb at this;simpa using this
 have hss:∀ y∈c.si.map ai,y.size<=21:=fun y hy=>by
  obtain⟨x,hx,rfl⟩:=List.mem_map.1 hy;have:=hsi x hx;exact sD x aB aB
 have hsz:∀ y∈c.si.map ai,y.size≠0:=fun y hy=>by
  obtain⟨x,hx,rfl⟩:=List.mem_map.1 hy;exact (pR x (hsi x hx).1).1
 have d1:=fun W=>aCp c.fr.toNat W (by have:=ok.fr1;omega)
 have d2:=fun W=>aCp c.till.toNat W (by have:=ok.to1;omega)
 have d3:=fun W=>aCp c.us.toNat W (by have:=ok.us1;omega)
 rw[Int.toNat_of_nonneg ok.fr0]at d1;rw[Int.toNat_of_nonneg ok.to0]at d2;rw[Int.toNat_of_nonneg ok.us0]at d3;have dx:∀ x∈c.si,∀ W,Calls prog 59 #[.int .i64 x] W (Ret W (.string (ai x))):=fun x hx W=>by
  have h:=hsi x hx;have:=aCp x.toNat W aB
  rwa [Int.toNat_of_nonneg h.1]at this
 have hnm:∀ x∈c.cl,x.size<=64:=fun x hx=>rH (ok.cl x hx)
 have hnc:∀ x∈c.co,x.size<=64:=fun x hx=>by have:=aIw (ok.co x hx);omega
 have l1:=ok.clLen;have l2:=ok.coLen;have l3:=ok.siLen;have q1:=aDp c.cl 64 hnm;have q2:=aDp c.co 64 hnc;have q3:=aDp (c.si.map ai) 21 hss;rw[List.length_map]at q3;have j1:=fun W (hb:aF w W)=>aDo m.A c.cl.length m.ca c.cl W (hR.cl.keep hb) aB aB (fun x hx=>by have:=hnm x hx;omega)
 have j2:=fun W (hb:aF w W)=>aDo m.B c.co.length m.cb c.co W (hR.co.keep hb) aB aB (fun x hx=>by have:=hnc x hx;omega)
 have j3:=fun (A':Option Addr) (c':Nat) W (hr:aI W 1 A' c.si.length ((c.si.map ai).map .string))=>aDo A' c.si.length c' (c.si.map ai) W hr aB aB (fun x hx=>by have:=hss x hx;omega)
 rw[aDn (fun x hx=>(CP (ok.cl x hx)).1)]at j1;rw[aDn (fun x hx=>(CQ (ok.co x hx)).1)]at j2;rw[aDn hsz]at j3;have hs1:=sD c.fr (by have:=ok.fr0;omega) (by have:=ok.fr1;omega);have hs2:=sD c.till (by have:=ok.to0;omega) (by have:=ok.to1;omega);have hs3:=sD c.us (by have:=ok.us0;omega) (by have:=ok.us1;omega);have hs4:=VC c.pat;have hp:=hc.p;have hs5:=Bd 64 c.cl hnm;have hs6:=Bd 64 c.co hnc;have hs7:=Bd 21 (c.si.map ai) hss;rw[List.length_map]at hs7;have hor:(orT c.pat ⟨#[126]⟩=⟨#[126]⟩/\(c.pat.toList == [])=true/\c.pat.toList=[])\/(orT c.pat ⟨#[126]⟩=c.pat/\(c.pat.toList == [])=false/\¬ c.pat.toList=[]):=by
  unfold orT;by_cases h:c.pat.size=0
  ·have e:c.pat.toList=[]:=aEm;exact .inl ⟨by rw[if_pos h],by rw[e];rfl,e⟩
  ·have e:¬ c.pat.toList=[]:=fun e=>h zu
   exact .inr ⟨by rw[if_neg h],by simpa using e,e⟩
 have hT:=aIv c;generalize bK c=T at *;have hls:c.si.length=c.si.length:=rfl;obtain⟨fr,till,pat,cl,co,si,us⟩:=c;obtain⟨A,ca,B,cb,S,cs⟩:=m;have hS:=hR.si;unfold ae.val at c1 ⊢;dsimp only at c1 d1 d2 d3 dx j1 j2 j3 hs1 hs2 hs3 hs4 hs5 hs6 hs7 hor hT hS l1 l2 l3 hp ⊢;generalize dn cl=t1 at *;generalize dn co=t2 at *;generalize dn (si.map ai)=t3 at *;generalize ai fr=u1 at *;generalize ai till=u2 at *;generalize ai us=u3 at *;generalize orT pat ⟨#[126]⟩=pp at *;obtain⟨ns,hns⟩:∃ ns,ns=si.length:=⟨_,rfl⟩;rw[<-hns]at c1 j3 hS l3 ⊢;generalize cl.length=na at *;generalize co.length=nb at *;obtain⟨i0,hi0,hz0,hz1,hz2⟩:=info_parts rY;have HI:Hid ((prog.info? 9=some i0)/\i0.zero=some (.string ⟨#[]⟩)/\i0.size=1/\i0.bytes=16):=aA ⟨hi0,hz0,hz1,hz2⟩;have C1:=aA c1;have D1:=aA d1;have D2:=aA d2;have D3:=aA d3;have DX:=aA dx;have J1:=aA j1;have J2:=aA j2;have J3:=aA j3;have HS:=aA hS;have HNS:=aA hns;have HT:=aA hT;have HOR:=aA hor;have HSZ:Hid (u1.size<=21/\u2.size<=21/\u3.size<=21/\pp.size<=200000/\t1.size<=100000/\t2.size<=100000/\t3.size<=100000):=aA ⟨hs1,hs2,hs3,aB,aB,aB,aB⟩;clear c1 d1 d2 d3 dx j1 j2 j3 hS hns hT hor hs1 hs2 hs3 hs4 hs5 hs6 hs7 hsi hss hsz hnm hnc q1 q2 q3 l1 l2 hp hi0 hz0 hz1 hz2 hls ok hv hR hc;go_enter func131,ntmps131;go_wp2_with (go_at_call 32;refine (C1.out _ aJ).mono ?_;rintro e w2 ⟨rfl,hb2⟩;have hX2:aX w2 w.heap.size fr till pat A na ca B nb cb S ns cs us:=Blk.keep (vC _ _ _).1 hb2;have hK2:KW w2 (w.heap.size+1) ⟨#[]⟩ 0:=Blk.keep (vC _ _ _).2 hb2;have hbw:aF w w2:=aJ;obtain⟨x0,x1,x2,x3,x4,x5,x6⟩:=hX2.facts;obtain⟨k0,k1,g0,g1,hz2⟩:=hK2.facts);go_loopw [4,5] (fun vl vi wr=>∃(k:Nat)(A':Option Addr)(c':Nat),(vl=.slice A' k c'/\vi=.int .i64 k/\k<=ns)/\aX wr w.heap.size fr till pat A na ca B nb cb S ns cs us/\KW wr (w.heap.size+1) ⟨#[]⟩ 0/\wr.ownsRow (w.heap.size+1+1) 9 1 (.slice A' k c') k (((si.map ai).take k).map .string)/\aF w wr) (fun _ vi _=>ns-(intOf vi).toNat)
 case atStart=>exact⟨0,none,0,⟨rfl,rfl,Nat.zero_le _⟩,hX2,hK2,World.ownsRow_nil _ _ _ _,hbw⟩
 case round =>
  clear hX2 hK2 hbw x0 x1 x2 x3 x4 x5 x6 k0 k1 g0 g1 hz2 hb2;obtain⟨k,A',c',⟨rfl,rfl,hk⟩,hX,hK,hown,hbw⟩:=hrel;obtain⟨x0,x1,x2,x3,x4,x5,x6⟩:=hX.facts;by_cases hlt:k<ns
  ·obtain⟨x,hx⟩:∃ x,si[k]? = some x:=⟨_,List.getElem?_eq_getElem (by have:=HNS.out;omega)⟩;obtain⟨pb,po,rfl,hcell⟩:=(HS.out.keep hbw).2 aB;have hc1:wr.cell? ⟨pb,po+k,none⟩=some (.int .i64 x):=hcell k _ gB;have hk0:(0:Int)<=(k:Int):=aB;have hk1:(k:Int)<(ns:Int):=aB;have htk:(si.map ai).take (k+1)=(si.map ai).take k++[ai x]:=by rw[List.take_add_one,List.getElem?_map,hx];rfl
   have HTK:=aA htk;have HD:=aA (DX.out x (List.mem_of_getElem? hx));clear hcell hx htk;go_wp2_with (first | (go_at_call 59;refine (HD.out _).mono ?_;rintro e w3 ⟨rfl,hb3⟩;have hown3:=fZ hown hb3;have hbw3:=aV hbw hb3;have hbs3:=hbw3.size;have hX3:=Blk.keep hX hb3;have hK3:=Blk.keep hK hb3;have hz3:=Blk.lt hK3) | (at_builtin;refine wpList_append_own _ rfl _ _ 24 rfl (w.heap.size+1+1) 9 i0 (.string ⟨#[]⟩) 1 16 underlying24 HI.out.1 HI.out.2.1 HI.out.2.2.1 HI.out.2.2.2 rfl aK _ _ _ rfl (hown3.alloc _) ⟨w3.heap.size,0,none⟩ 1 1 [.string (ai x)] rfl rfl (cell_one_new _ _ _) jJ dh aB aP ?_;intro v' w4 hown4 hgrow _;obtain⟨g1,cap1,rfl⟩:=ownsRow_succ hown4));have fr1:∀ j,j<w.heap.size+1+1->w4.heap[j]? = w3.heap[j]?:=fun j hj=>(hgrow.block j aP (fun e=>by have:=fE hown3 _ e.symm;omega)).trans (Below.heap_alloc w3 _ j aB)
   refine⟨⟨k+1,some ⟨g1,0,none⟩,cap1,⟨rfl,bg,aB⟩,(fr1 _ aB).trans hX3,(fr1 _ aB).trans hK3,by rw[HTK.out,List.map_append];exact hown4,?_⟩,dD⟩;exact (hbw3.alloc hbs3 _).grown hgrow aP (fun r e=>by have:=fE hown3 r e;omega)
  ·obtain rfl:k=ns:=aB;have ht:(si.map ai).take k=si.map ai:=List.take_of_length_le (by simp;have:=HNS.out;omega);rw[ht]at hown;have hr3:=aI.of_own hown;have j3:=fun W (hb:aF wr W)=>J3.out A' c' W (hr3.keep hb)
   have j1:=fun W (hb:aF wr W)=>J1.out W (aV hbw hb)
   have j2:=fun W (hb:aF wr W)=>J2.out W (aV hbw hb)
   obtain⟨z1,z2,z3,z4,z5,z6,z7⟩:=HSZ.out;have hTT:=HT.out;have K1:=aA j1;have K2:=aA j2;have K3:=aA j3;have HT2:=aA hTT;have hor:=HOR.out;clear ht hown hr3 j1 j2 j3 J1 J2 J3 HT HOR HSZ C1 DX HS HNS hTT;obtain⟨k0,k1,g0,g1,hz⟩:=hK.facts;rcases hor with ⟨e1,e2,e3⟩ | ⟨e1,e2,e3⟩
   ·have E1:=aA e1;have e4:pat.toList.isEmpty=true:=by rw[e3];rfl
    exact aEq
   ·have E1:=aA e1;have e4:pat.toList.isEmpty=false:=by simpa using e3
    exact aEq
end Go.Proofs.YtlkbkclnbppigaaGreatDoor
