/- What the specification's Parse and Canonical return. -/
import Derived.Test.YtlkbkclnbppigaaGreatDoorWY4
set_option maxHeartbeats 16000000
namespace Go.Proofs.YtlkbkclnbppigaaGreatDoor
open Tryz
open Go.RowKit Go.Sort
set_option linter.unusedVariables false
set_option linter.unusedSimpArgs false
set_option maxRecDepth 100000
theorem aEd{w:World}{b o n c:Nat}{x:Value}{vs:List Value}(h:aI w 1 (some ⟨b,o,none⟩) (n+1) (x :: vs))(A':Option Addr)(hA:c≠1->A'=some ⟨b,o+1,none⟩)(hc:n+1<=c):aI w 1 A' n vs:=by
 refine⟨by have:=h.1;simp at this ⊢;omega,fun hn=>?_⟩;obtain⟨b2,o2,e,hcell⟩:=h.2 aB;injection e with e
 injection e with e1 e2
 subst e1;subst e2;refine⟨b,o+1,hA aB,fun j u hu=>?_⟩;have:=hcell (j+1) u (by simpa using hu)
 rwa [show o+1+j=o+(j+1) by omega]
theorem aPb(s Lb L Q T C:aC)(r:List aC)(b1 nm:Bool)(rr:Option (List aC))(qq:Option (List (aC × aC)))(w:World)(hs:s.size<=4096)(hL:L.size<=100000)
  (hsel:(L.size=0/\T=L)\/(∃ j,∃ hj:j<L.size,L.size=j+1/\(L[j].toNat==47)=false/\T=L)\/(∃ j,∃ hj:j<L.size,L.size=j+1/\(L[j].toNat==47)=true/\T=L.extract 0 j))
  (hrl:r.length<=1000000)
  (HL:Hid (∀ W,Calls prog 241 #[.string s] W (Ret W (.string Lb))))
  (HC:Hid (∀ W,Calls prog 240 #[.string Lb,.int .u8 63] W (Ret W (.tuple #[.string L,.string Q,.bool b1]))))
  (HS0:Hid (∀ W,Calls prog 188 #[.string T,.int .u8 47] W (GZ (C :: r) W)))
  (HN:Hid (∀ W,Calls prog 50 #[.string C] W (Ret W (.bool nm))))
  (HP0:Hid (∀ A c W,aI W 1 A r.length (r.map .string)->Calls prog 242 #[.slice A r.length c] W (G7 rr W)))
  (HQ:Hid (∀ W,Calls prog 243 #[.string Q] W (nT qq W))) :
  Calls prog 186 #[.string s] w (JU (pI C nm rr qq) w):=by
 obtain⟨ps,np,o1,hps,hnp,ho1⟩:∃ ps np o1,ps=rr.getD []/\np=(rr.getD []).length/\o1=rr.isSome:=⟨_,_,_,rfl,rfl,rfl⟩;obtain⟨qs,nq,o2,hqs,hnq,ho2⟩:∃ qs nq o2,qs=qq.getD []/\nq=(qq.getD []).length/\o2=qq.isSome:=⟨_,_,_,rfl,rfl,rfl⟩;have HPs:Hid (∀ X e w',G7 rr X e w'->aF X w'/\∃ A c,e=.returned (.tuple #[.slice A np c,.bool o1])/\aI w' 1 A np (ps.map .string)/\(∀ a,A=some a->X.heap.size<=a.block)):=aA (fun X e w' h=>by rw[hps,hnp,ho1];exact h.some_);have HQs:Hid (∀ X e w',nT qq X e w'->aF X w'/\∃ A c,e=.returned (.tuple #[.slice A nq c,.bool o2])/\aI w' 2 A nq (eY qs)/\∀ a,A=some a->X.heap.size<=a.block):=aA (fun X e w' h=>by rw[hqs,hnq,ho2];exact h.some_);have hv:pI C nm rr qq=if nm&&o1&&o2 then (if np<=32/\nq<=16 then (⟨C,ps,qs⟩,0) else (mJ,2)) else (mJ,3):=by
  rw[hps,hnp,ho1,hqs,hnq,ho2];cases nm <;> cases rr <;> cases qq <;> simp[pI]
 rw[hv];have HPL:Hid (ps.length=np):=aA (by rw[hps,hnp]);have HQL:Hid (qs.length=nq):=aA (by rw[hqs,hnq]);clear hv hps hnp ho1 hqs hnq ho2;obtain⟨m,hm⟩:∃ m,m=r.length:=⟨_,rfl⟩;have HS:Hid (∀ W,Calls prog 188 #[.string T,.int .u8 47] W (fun e w'=>∃ A c,e=.returned (.slice A (m+1) c)/\w'.ownsRow W.heap.size 9 1 (.slice A (m+1) c) (m+1) ((C :: r).map .string)/\aF W w')):=aA (by rw[hm];exact HS0.out);have HPT:Hid (∀ A c W,aI W 1 A m (r.map .string)->Calls prog 242 #[.slice A m c] W (G7 rr W)):=aA (by rw[hm];exact HP0.out);have hm9:m<=1000000:=aB;clear HS0 HP0 hm hrl;have hd:decide ((4096:Int)<(s.size:Int))=false:=aP;generalize hV:JU (if nm&&o1&&o2 then (if np<=32/\nq<=16 then (⟨C,ps,qs⟩,0) else (mJ,2)) else (mJ,3)) w=V;have HV:=aA hV;have HSEL:=aA hsel;clear hV hsel;go_enter func186,ntmps186;obtain⟨t,ht⟩:∃ t,(t=false/\T=L)\/(t=true/\∃ j,L.size=j+1/\T=L.extract 0 j):=by
  rcases HSEL.out with ⟨h0,h⟩ | ⟨j,hj,h0,hb47,h⟩ | ⟨j,hj,h0,hb47,h⟩
  ·exact⟨false,.inl ⟨rfl,h⟩⟩
  ·exact⟨false,.inl ⟨rfl,h⟩⟩
  ·exact⟨true,.inr ⟨rfl,j,h0,h⟩⟩
 have HT:=aA ht;have hsel2:(L.size=0/\t=false)\/∃ j,∃ hj:j<L.size,L.size=j+1/\(L[j].toNat==47)=t:=by
  rcases HSEL.out with ⟨h0,h⟩ | ⟨j,hj,h0,hb47,h⟩ | ⟨j,hj,h0,hb47,h⟩
  ·refine .inl ⟨h0,?_⟩;rcases ht with ⟨h,_⟩ | ⟨_,j,h,_⟩
   ·exact h
   ·omega
  ·refine .inr ⟨j,hj,h0,?_⟩;rcases ht with ⟨h1,_⟩ | ⟨_,k,h1,h2⟩
   ·rw[h1,hb47]
   ·exact aJy
  ·refine .inr ⟨j,hj,h0,?_⟩;rcases ht with ⟨_,h2⟩ | ⟨h1,_⟩
   ·exact aJy
   ·rw[h1,hb47]
 have HSEL2:=aA hsel2;clear hsel2 ht HSEL;go_upto_region 4 with (first | (go_at_call 241;refine (HL.out _).mono ?_;rintro e w1 ⟨rfl,hb1⟩;have hX1:JS w1 w.heap.size ⟨#[]⟩ none 0 0 none 0 0 0:=Blk.keep (World.alloc_heap_new _ _) hb1) | (go_at_call 240;refine (HC.out _).mono ?_;rintro e w2 ⟨rfl,hb2⟩;have hX2:JS w2 w.heap.size ⟨#[]⟩ none 0 0 none 0 0 0:=Blk.keep hX1 hb2))
 go_cut [32] (fun c wx=>c=.bool t/\wx=w2)
 case first =>
  rcases HSEL2.out with ⟨h0,rfl⟩ | ⟨j,hj,h0,hb47⟩
  ·go_wp2_with fail;go_meet;exact⟨rfl,rfl⟩
  ·have hby:=aDm L[j] 47;rw[hb47]at hby;have hq0:(0:Int)<(L.size:Int):=aB;have hq1:(L.size:Int)-1=(j:Int):=aB;clear hb47;go_wp2_with fail;go_meet;exact⟨congrArg Value.bool hby,rfl⟩
 case rest =>
  obtain⟨rfl,rfl⟩:=hcut;go_upto_if 32 with fail
  go_cut [3] (fun c wx=>c=.string T/\wx=wc)
  case first =>
   rcases HT.out with ⟨rfl,rfl⟩ | ⟨rfl,j,hj,rfl⟩
   ·go_wp2_with fail;go_meet;exact⟨rfl,rfl⟩
   ·have hq0:(0:Int)<=(j:Int):=aB;have hq1:(L.size:Int)-1=(j:Int):=aB;have hq2:(j:Int)<=(L.size:Int):=aB;go_wp2_with fail;go_meet;exact⟨rfl,rfl⟩
  case rest =>
  obtain⟨rfl,rfl⟩:=hcut;have hXc:=hX2;have hbc:aF w wc:=aJ;clear hX1 hX2 hb1 hb2 HSEL2 HT;cases nm
  ·have HV2:=HV.out;simp only[Bool.false_and,Bool.false_eq_true,if_false]at HV2;go_wp2_with (first | (go_at_call 188;refine (HS.out _).mono ?_;rintro e w3 ⟨A,c,rfl,hown,hb3⟩;have hX3:JS w3 w.heap.size ⟨#[]⟩ none 0 0 none 0 0 0:=Blk.keep hXc hb3;obtain⟨pb,po,u,rfl,hu,g0⟩:=(aI.of_own hown).at_ (k:=0) aB;(obtain rfl:u=.string C:=aCa);clear hu;have gg:w3.cell? ⟨pb,po,none⟩=some (.string C):=g0;clear g0;have HR:=aA (aI.of_own hown);have hcap:=Bh hown;clear hown;have hm0:(0:Int)<(m:Int)+1:=aB;have hm1:(1:Int)<=(m:Int)+1:=aB;have hm2:(m:Int)+1<=(c:Int):=aB) | (go_at_call 50;refine (HN.out _).mono ?_;rintro e w4 ⟨rfl,hb4⟩;have hX4:JS w4 w.heap.size ⟨#[]⟩ none 0 0 none 0 0 0:=Blk.keep hX3 hb4;have gg4:=aW hb4 gg;obtain⟨x0,x1,x2,x3,f0,f1,f2,f3⟩:=hX4.facts;have hz4:w.heap.size<w4.heap.size:=Blk.lt hX4) | (go_at_call 242;refine (HPT.out _ _ _ (aEd ((HR.out.keep aJ)) _ (fun h=>(by simp[h])) hcap)).mono ?_;rintro e w5 hp5;obtain⟨hb5,PA,Pc,rfl,hPR,hPA⟩:=HPs.out _ _ _ hp5;clear hp5;have hX5:JS w5 w.heap.size ⟨#[]⟩ none 0 0 none 0 0 0:=Blk.keep hX4 hb5;have gg5:=aW hb5 gg4) | (go_at_call 243;refine (HQ.out _).mono ?_;rintro e w6 hq6;obtain⟨hb6,QA,Qc,rfl,hQR,hQA⟩:=HQs.out _ _ _ hq6;clear hq6;have hX6:JS w6 w.heap.size ⟨#[]⟩ none 0 0 none 0 0 0:=Blk.keep hX5 hb6;have gg6:=aW hb6 gg5;clear x0 x1 x2 x3 f0 f1 f2 f3;obtain⟨x0,x1,x2,x3,f0,f1,f2,f3⟩:=hX6.facts;have hz6:w.heap.size<w6.heap.size:=Blk.lt hX6));all_goals (rw[<-HV2];exact bodyPost_ret (v:=.agg #[.string ⟨#[]⟩,.slice none 0 0,.slice none 0 0,.int .i64 3]) (by simp[results,results186,go_sem,hz4,x0,x1,x2,x3,f0,f1,f2,f3]) rfl (JU.err aJ))
  cases o1
  ·exact aJz
  cases o2
  ·exact aJz
  have HV1:=HV.out;simp only[Bool.and_self,if_true]at HV1;by_cases hnp:np<=32;rotate_left
  ·have HV2:=HV1;rw[if_neg (fun h=>hnp h.1)]at HV2;have hd1:decide ((32:Int)<(np:Int))=true:=aP;exact aKa
  have hd1:decide ((32:Int)<(np:Int))=false:=aP;by_cases hnq:nq<=16;rotate_left
  ·have HV2:=HV1;rw[if_neg (fun h=>hnq h.2)]at HV2;have hd2:decide ((16:Int)<(nq:Int))=true:=aP;exact aKa
  have hd2:decide ((16:Int)<(nq:Int))=false:=aP;have HV2:=HV1;rw[if_pos ⟨hnp,hnq⟩]at HV2;clear HV1;go_wp2_with (first | (go_at_call 188;refine (HS.out _).mono ?_;rintro e w3 ⟨A,c,rfl,hown,hb3⟩;have hX3:JS w3 w.heap.size ⟨#[]⟩ none 0 0 none 0 0 0:=Blk.keep hXc hb3;obtain⟨pb,po,u,rfl,hu,g0⟩:=(aI.of_own hown).at_ (k:=0) aB;(obtain rfl:u=.string C:=aCa);clear hu;have gg:w3.cell? ⟨pb,po,none⟩=some (.string C):=g0;clear g0;have HR:=aA (aI.of_own hown);have hcap:=Bh hown;clear hown;have hm0:(0:Int)<(m:Int)+1:=aB;have hm1:(1:Int)<=(m:Int)+1:=aB;have hm2:(m:Int)+1<=(c:Int):=aB) | (go_at_call 50;refine (HN.out _).mono ?_;rintro e w4 ⟨rfl,hb4⟩;have hX4:JS w4 w.heap.size ⟨#[]⟩ none 0 0 none 0 0 0:=Blk.keep hX3 hb4;have gg4:=aW hb4 gg;obtain⟨x0,x1,x2,x3,f0,f1,f2,f3⟩:=hX4.facts;have hz4:w.heap.size<w4.heap.size:=Blk.lt hX4) | (go_at_call 242;refine (HPT.out _ _ _ (aEd ((HR.out.keep aJ)) _ (fun h=>(by simp[h])) hcap)).mono ?_;rintro e w5 hp5;obtain⟨hb5,PA,Pc,rfl,hPR,hPA⟩:=HPs.out _ _ _ hp5;clear hp5;have hX5:JS w5 w.heap.size ⟨#[]⟩ none 0 0 none 0 0 0:=Blk.keep hX4 hb5;have gg5:=aW hb5 gg4) | (go_at_call 243;refine (HQ.out _).mono ?_;rintro e w6 hq6;obtain⟨hb6,QA,Qc,rfl,hQR,hQA⟩:=HQs.out _ _ _ hq6;clear hq6;have hX6:JS w6 w.heap.size ⟨#[]⟩ none 0 0 none 0 0 0:=Blk.keep hX5 hb6;have gg6:=aW hb6 gg5;clear x0 x1 x2 x3 f0 f1 f2 f3;obtain⟨x0,x1,x2,x3,f0,f1,f2,f3⟩:=hX6.facts;have hz6:w.heap.size<w6.heap.size:=Blk.lt hX6));all_goals
   have s1:=hbc.size;have s3:=hb3.size;have s4:=hb4.size;have s5:=hb5.size;have hzc:=Blk.lt hXc;have hA1:∀ a,PA=some a->a.block≠w.heap.size:=fun a ha=>Py
   have hB1:∀ a,QA=some a->a.block≠w.heap.size:=fun a ha=>Pz
   rw[<-HV2];exact bodyPost_ret (v:=.agg #[.string C,.slice PA np Pc,.slice QA nq Qc,.int .i64 0]) aFx rfl ⟨aJ,PA,Pc,QA,Qc,by rw[HPL.out,HQL.out],by rw[HPL.out];exact ((((hPR.keep hb6).set_ _ _ hA1).set_ _ _ hA1).set_ _ _ hA1).set_ _ _ hA1,by rw[HQL.out];exact (((hQR.set_ _ _ hB1).set_ _ _ hB1).set_ _ _ hB1).set_ _ _ hB1⟩
theorem aPc(l:BL):Lib.trimSuffix (l++[47]) [47]=l:=by
 unfold Lib.trimSuffix;rw[if_pos (by simp[Lib.hasSuffix])];simp
theorem aPd(s:aC):((toB (dR s).1).size=0/\XC s=toB (dR s).1)\/(∃ j,∃ hj:j<(toB (dR s).1).size,(toB (dR s).1).size=j+1/\((toB (dR s).1)[j].toNat==47)=false/\XC s=toB (dR s).1)\/(∃ j,∃ hj:j<(toB (dR s).1).size,(toB (dR s).1).size=j+1/\((toB (dR s).1)[j].toNat==47)=true/\XC s=(toB (dR s).1).extract 0 j):=by
 unfold XC;generalize (dR s).1=l;rcases List.eq_nil_or_concat l with rfl | ⟨a,b,rfl⟩
 ·exact .inl ⟨rfl,rfl⟩
 ·rw[List.concat_eq_append];have hz:(toB (a++[b])).size=a.length+1:=by rw[mg];simp
  have hg:∀ hj:a.length<(toB (a++[b])).size,(toB (a++[b]))[a.length]=b:=fun hj=>by
   rw[SE _ _ hj];simp[toB]
  by_cases hb:b=47
  ·subst hb;refine .inr (.inr ⟨a.length,aB,hz,by rw[hg];rfl,?_⟩);rw[aPc];exact fK (by rw[Lib.extract_data];simp[toB])
  ·refine .inr (.inl ⟨a.length,aB,hz,?_,?_⟩)
   ·rw[hg,beq_eq_false_iff_ne];intro e;exact hb (UInt8.toNat_inj.1 e)
   ·rw[aGu a b hb]
theorem aPe(s:aC)(w:World)(hs:4096<s.size):Calls prog 186 #[.string s] w (JU (mJ,2) w):=by
 have hd:decide ((4096:Int)<(s.size:Int))=true:=aP;go_enter func186,ntmps186;go_wp2;exact bodyPost_ret (v:=.agg #[.string ⟨#[]⟩,.slice none 0 0,.slice none 0 0,.int .i64 2]) (by simp[results,results186,go_sem]) rfl (JU.err aJ)
theorem aPf(s:aC)(w:World)(hs:s.size<=4294967281):Calls prog 186 #[.string s] w (JU (dB s) w):=by
 by_cases h:4096<s.size
 ·have:=aPe s w h;unfold dB;rw[if_pos h];exact this
 have h1:=EC (iI s.data.toList) [63];have h2:=ED (iI s.data.toList) [63];have h3:=Iw (dR s).1 [47];have h0:=Iy s.data.toList;rw[<-Lib.size_eq]at h0;obtain⟨r,hr1,hr2⟩:=aOr s;have hst:(XC s).size<=s.size:=by show (toB (Lib.trimSuffix (dR s).1 [47])).size<=_;rw[mg];unfold dR at *;omega
 have hn:=qM 47 (XC s);have hz:=oU 47 (XC s);rw[hr1]at hn hz;have hC:=hz (toB (dw s).1) aH;have:=aPb s (toB (iI s.data.toList)) (toB (dR s).1) (toB (dR s).2.1) (XC s) (toB (dw s).1) r (dR s).2.2 (bU (toB (dw s).1)) (mW (dw s)) (lN (toB (dR s).2.1)) w aB (by rw[mg];unfold dR;omega) (aPd s) (by simp at hn;omega)
  (aA fun W=>aMi s W hs) (aA fun W=>by have:=aHy (toB (iI s.data.toList)) 63 W (by rw[mg];omega);exact this)
  (aA fun W=>by have:=aFc (XC s) 47 W aB;rw[hr1]at this;exact this) (aA fun W=>aBx _ W aB)
  (aA fun A c W h=>by rw[hr2];exact aOs A r.length c r W h (by simp at hn;omega) (fun p hp=>by have:=hz p oV;omega)) (aA fun W=>aOw _ W (by rw[mg];unfold dR;omega))
 unfold dB;rw[if_neg h];exact this
def aCb(s:aC):aC × Int:=if (dB s).2=0 then aCk (dB s).1.cust (dB s).1.path (dB s).1.query else (⟨#[]⟩,(dB s).2)
theorem aPg(s:aC)(w:World)(hs:s.size<=4294967281):Calls prog 145 #[.string s] w (Ret w (.agg #[.string (aCb s).1,.int .i64 (aCb s).2])):=by
 have cP:=fun W=>aPf s W hs
 have he:=zn s;have hbd:=FQ s;unfold aCb;generalize dB s=r at *;obtain⟨⟨c,ps,qs⟩,er⟩:=r;dsimp only at he hbd ⊢;have cT:=fun A ca B cb W h1 h2=>aPa c A B ps.length ca qs.length cb ps qs W h1 h2 aB
 generalize aCk c ps qs=t at *;obtain⟨t,e0⟩:=t;dsimp only at cT;have HP:=aA cP;have HT:=aA cT;clear cP hbd cT;rcases he with rfl | rfl | rfl
 ·rw[if_pos rfl];go_enter func145,ntmps145;go_wp2_with (first | (go_at_call 186;refine (HP.out _).mono ?_;rintro e w1 ⟨hb1,A,ca,B,cb,rfl,hA,hB⟩;have hX1:Gi w1 w.heap.size ⟨#[]⟩ 0:=Blk.keep (World.alloc_heap_new _ _) hb1;obtain⟨x0,x1,f0,f1⟩:=hX1.facts;have hz1:w.heap.size<w1.heap.size:=Blk.lt hX1;have hz9:w1.heap.size≠w.heap.size:=aB;have HA:=aA hA;have HB:=aA hB;clear hA hB) | (go_at_call 202;refine (HT.out _ _ _ _ _ (HA.out.keep aJ) (HB.out.keep aJ)).mono ?_;rintro e w2 ⟨rfl,hb2⟩;have hX2:Gi w2 w.heap.size ⟨#[]⟩ 0:=Blk.keep hX1 (dZ _ hb2);obtain⟨y0,y1,g0,g1⟩:=hX2.facts;have hz2:w.heap.size<w2.heap.size:=Blk.lt hX2));exact bodyPost_ret (v:=.agg #[.string t,.int .i64 e0]) (by simp[results,results145,go_sem,hz2,y0,y1,g0,g1]) rfl ⟨rfl,aJ⟩
 ·exact aKb
 ·exact aKb
def aFy(s:aC):Bool:=decide ((aCb s).2=0)&&((aCb s).1.toList==s.toList)
theorem aPh(s:aC):aFy s=qJ s:=by
 unfold aFy qJ aCb;by_cases h:(dB s).2=0
 ·rw[if_pos h,decide_eq_true h,Bool.true_and];have hg:=Ai s h;have hsh:=U1 s h;have hf:nO (dB s).1.cust (dB s).1.path (dB s).1.query=true:=(UN _ _ _).2 ⟨hg,aB⟩;unfold aCk;rw[if_pos hf];rfl
 ·rw[if_neg h,decide_eq_false h];simp[h]
theorem aPi(s:aC)(w:World)(hs:s.size<=4294967281):Calls prog 84 #[.string s] w (Ret w (.bool (qJ s))):=by
 rw[<-aPh];have cC:=fun W=>aPg s W hs
 unfold aFy;generalize aCb s=r at *;obtain⟨t,er⟩:=r;dsimp only at cC ⊢;have HC:=aA cC;clear cC;cases h2:(t.toList==s.toList)
 ·exact aKc
 ·exact aKc
theorem aDy.any_{r:Option Pat}{w w':World}{e:Ending}(h:aDy r w e w'):aF w w'/\∃(c:aC)(A:Option Addr)(n k:Nat)(t:Bool),e=.returned (.tuple #[.agg #[.string c,.slice A n k,.bool t],.bool r.isSome]):=by
 obtain⟨hb,h⟩:=h;cases r with
 | none=>exact⟨hb,_,none,0,0,_,h⟩
 | some x=>obtain⟨A,c,h,_⟩:=h;exact⟨hb,_,A,_,c,_,h⟩
theorem aPj(s:aC)(w:World)(hs:s.size<=100000):Calls prog 66 #[.string s] w (Ret w (.bool (dI s).isSome)):=by
 have cC:=fun W=>(aOm s W hs).mono (fun e w' h=>h.any_)
 generalize (dI s).isSome=b at *;have HC:=aA cC;clear cC;go_enter func66,ntmps66;go_wp2_with (go_at_call 130;refine (HC.out _).mono ?_;rintro e w1 ⟨hb1,c,A,n,k,t,rfl⟩);go_ret;exact⟨rfl,aJ⟩
theorem aFz{α:Type}(lt:α->α->Bool)(right:α->Bool)(l:List α)(k:Nat):okK lt right l k=((match l[k]? with
  | none=>true
  | some x=>right x)&&okK lt (fun _=>true) l k):=by
 unfold okK
 cases l[k]? <;> simp
theorem aKd(right:aC->Bool)(most:Nat)(l:List aC):iU ltB right most l=(decide (l.length<=most)&&l.all right&&A7 l):=by
 unfold iU A7;rw[Bool.eq_iff_iff];simp only[Bool.and_eq_true,decide_eq_true_eq,List.all_eq_true];constructor
 ·rintro⟨h1,h2⟩;refine⟨⟨h2,fun x hx=>?_⟩,fun k hk=>?_⟩
  ·obtain⟨k,hk,rfl⟩:=List.getElem_of_mem hx;have:=h1 k (by simpa using hk);rw[aFz,List.getElem?_eq_getElem hk,Bool.and_eq_true]at this;exact this.1
  ·have:=h1 k hk;rw[aFz,Bool.and_eq_true]at this;exact this.2
 ·rintro⟨⟨h1,h2⟩,h3⟩;refine⟨fun k hk=>?_,h1⟩;rw[aFz,Bool.and_eq_true];refine⟨?_,h3 k hk⟩;have hk':k<l.length:=by simpa using hk
  rw[List.getElem?_eq_getElem hk'];exact h2 _ (List.getElem_mem hk')
def SI(l:List Int):Bool:=(List.range l.length).all (okK ltI jb l)
theorem aPk{l:List Int}{k:Nat}(hk:k<l.length)(h2:okK ltI jb l k=false):SI l=false:=by
 unfold SI;rw[List.all_eq_false];exact⟨k,by simpa using hk,by rw[h2];simp⟩
theorem aPl(c:aY):bF c=(BK c&&gY c.pat&&decide (c.cl.length<=32)&&decide (c.co.length<=32)&&decide (c.si.length<=64)&&(c.cl.all bU&&c.co.all iV&&SI c.si&&A7 c.cl&&A7 c.co)):=by
 unfold bF;rw[aKd,aKd];have h3:iU ltI jb 64 c.si=(SI c.si&&decide (c.si.length<=64)):=rfl;rw[h3];generalize BK c=a1;generalize gY c.pat=a2;generalize decide (c.cl.length<=32)=a3;generalize decide (c.co.length<=32)=a4;generalize decide (c.si.length<=64)=a5;generalize c.cl.all bU=a6;generalize c.co.all iV=a7;generalize SI c.si=a8;generalize A7 c.cl=a9;generalize A7 c.co=a10;revert a1 a2 a3 a4 a5 a6 a7 a8 a9 a10;decide
theorem aPm(c:aY)(m:ae)(w:World)(hR:dA w c m)(hp:c.pat.size<=100000)(hcl:∀ x∈c.cl,x.size<=100000)(hco:∀ x∈c.co,x.size<=100000)(h1:c.cl.length<=1000000)(h2:c.co.length<=1000000)(h3:c.si.length<=1000000) :
  Calls prog 32 #[ae.val c m] w (Ret w (.bool (bF c))):=by
 obtain⟨fr,till,pat,cl,co,si,us⟩:=c;obtain⟨A,ca,B,cb,S,cs⟩:=m;obtain⟨hA,hB,hS⟩:=hR;dsimp only at hA hB hS hp hcl hco h1 h2 h3;unfold ae.val;dsimp only;obtain⟨V,hV⟩:∃ V,V=bF ⟨fr,till,pat,cl,co,si,us⟩:=⟨_,rfl⟩;rw[<-hV];rw[aPl]at hV;unfold BK gY at hV;dsimp only at hV;have hva:=fun W=>aPj pat W hp
 have hna:=fun x (hx:x∈cl) W=>aBx x W (by have:=hcl x hx;omega)
 have hcy:=fun x (hx:x∈co) W=>aJk x W (by have:=hco x hx;omega)
 have Fe:=fun W (hb:aF w W)=>aJl A cl.length ca cl W (hA.keep hb) aB
 have Ff:=fun W (hb:aF w W)=>aJl B co.length cb co W (hB.keep hb) aB
 generalize (dI pat).isSome=b1 at *;obtain⟨na,hna0⟩:∃ na,na=cl.length:=⟨_,rfl⟩;obtain⟨nb,hnb0⟩:∃ nb,nb=co.length:=⟨_,rfl⟩;obtain⟨ns,hns0⟩:∃ ns,ns=si.length:=⟨_,rfl⟩;rw[<-hna0]at hA hV h1 Fe ⊢;rw[<-hnb0]at hB hV h2 Ff ⊢;rw[<-hns0]at hS hV h3 ⊢;have HVA:=aA hva;have HNA:=aA hna;have HCY:=aA hcy;have HAS1:=aA Fe;have HAS2:=aA Ff;have HA:=aA hA;have HB:=aA hB;have HS:=aA hS;have HLA:=aA hna0;have HLB:=aA hnb0;have HLS:=aA hns0;clear hva hna hcy Fe Ff hA hB hS hna0 hnb0 hns0 hcl hco hp;by_cases t1:0<=fr;rotate_left
 ·obtain rfl:V=false:=by rw[hV];simp[t1]
  have d1:decide (fr<0)=true:=decide_eq_true aB;clear hV;exact XX
 have d1:decide (fr<0)=false:=decide_eq_false aB;by_cases t2:fr<=1099511627776;rotate_left
 ·obtain rfl:V=false:=by rw[hV];simp[t2]
  have d2:decide (1099511627776<fr)=true:=decide_eq_true aB;clear hV;exact XX
 have d2:decide (1099511627776<fr)=false:=decide_eq_false aB;by_cases t3:0<=till;rotate_left
 ·obtain rfl:V=false:=by rw[hV];simp[t3]
  have d3:decide (till<0)=true:=decide_eq_true aB;clear hV;exact XX
 have d3:decide (till<0)=false:=decide_eq_false aB;by_cases t4:till<=1099511627777;rotate_left
 ·obtain rfl:V=false:=by rw[hV];simp[t4]
  have d4:decide (1099511627777<till)=true:=decide_eq_true aB;clear hV;exact XX
 have d4:decide (1099511627777<till)=false:=decide_eq_false aB;by_cases t5:0<=us;rotate_left
 ·obtain rfl:V=false:=by rw[hV];simp[t5]
  have d5:decide (us<0)=true:=decide_eq_true aB;clear hV;exact XX
 have d5:decide (us<0)=false:=decide_eq_false aB;by_cases t6:us<=1073741824;rotate_left
 ·obtain rfl:V=false:=by rw[hV];simp[t6]
  have d6:decide (1073741824<us)=true:=decide_eq_true aB;clear hV;exact XX
 have d6:decide (1073741824<us)=false:=decide_eq_false aB;have hV2:V=((decide (pat.size=0)||b1)&&decide (na<=32)&&decide (nb<=32)&&decide (ns<=64)&&(cl.all bU&&co.all iV&&SI si&&A7 cl&&A7 co)):=by rw[hV];simp[t1,t2,t3,t4,t5,t6]
 clear hV;have hpc:(pat.size=0/\pat.toList=[]/\(pat.toList != [])=false)\/(pat.size≠0/\¬ pat.toList=[]/\(pat.toList != [])=true):=by
  by_cases h:pat.size=0
  ·have e:pat.toList=[]:=by rw[Lib.toList_data];exact List.eq_nil_of_length_eq_zero uf
   exact .inl ⟨h,e,by rw[e];rfl⟩
  ·have e:¬ pat.toList=[]:=fun e=>h zu
   exact .inr ⟨h,e,by simpa using e⟩
 have hb1:(pat.size≠0/\b1=false)\/(pat.size=0\/b1=true):=by
  by_cases h:pat.size=0
  ·exact .inr (.inl h)
  ·cases b1
   ·exact .inl ⟨h,rfl⟩
   ·exact .inr (.inr rfl)
 rcases hb1 with ⟨hs,rfl⟩ | hb1
 ·rcases hpc with ⟨hs2,_⟩ | ⟨_,hn,hn2⟩
  ·exact absurd hs2 hs
  obtain rfl:V=false:=by rw[hV2];simp[hs]
  clear hV2 hs;exact XX
 have hV3:V=(decide (na<=32)&&decide (nb<=32)&&decide (ns<=64)&&(cl.all bU&&co.all iV&&SI si&&A7 cl&&A7 co)):=by
  rw[hV2];rcases hb1 with h | h <;> simp[h]
 clear hV2;have hpd:(pat.toList=[]/\(pat.toList != [])=false)\/(b1=true/\¬ pat.toList=[]/\(pat.toList != [])=true):=by
  rcases hpc with ⟨h1,h2⟩ | ⟨h1,h2⟩
  ·exact .inl h2
  ·rcases hb1 with h | h
   ·exact absurd h h1
   ·exact .inr ⟨h,h2⟩
 clear hpc hb1;rcases hpd with ⟨hn,hn2⟩ | ⟨rfl,hn,hn2⟩
 all_goals
  by_cases t7:na<=32;rotate_left
  ·obtain rfl:V=false:=by rw[hV3];simp[t7]
   have d7:decide ((32:Int)<(na:Int))=true:=decide_eq_true aB;clear hV3;exact XX
  have d7:decide ((32:Int)<(na:Int))=false:=decide_eq_false aB;by_cases t8:nb<=32;rotate_left
  ·obtain rfl:V=false:=by rw[hV3];simp[t8]
   have d8:decide ((32:Int)<(nb:Int))=true:=decide_eq_true aB;clear hV3;exact XX
  have d8:decide ((32:Int)<(nb:Int))=false:=decide_eq_false aB;by_cases t9:ns<=64;rotate_left
  ·obtain rfl:V=false:=by rw[hV3];simp[t9]
   have d9:decide ((64:Int)<(ns:Int))=true:=decide_eq_true aB;clear hV3;exact XX
  have d9:decide ((64:Int)<(ns:Int))=false:=decide_eq_false aB;have hv4:V=(cl.all bU&&co.all iV&&SI si&&A7 cl&&A7 co):=by rw[hV3];simp[t7,t8,t9]
  have HV:=aA hv4;clear hV3 hv4;go_enter func32,ntmps32;go_wp2_with (go_at_call 66;refine (HVA.out _).mono ?_;rintro e w2 ⟨rfl,hb2⟩;(have hX2:aX w2 w.heap.size fr till pat A na ca B nb cb S ns cs us:=aKe;obtain⟨x0,x1,x2,x3,x4,x5,x6⟩:=hX2.facts));go_loopw [3] (fun vi wr=>∃ k:Nat,vi=.int .i64 k/\k<=na/\Hid ((cl.take k).all bU=true)/\aX wr w.heap.size fr till pat A na ca B nb cb S ns cs us/\aF w wr) (fun i _=>na-(intOf i).toNat)
  case atStart=>exact⟨0,rfl,Nat.zero_le _,aA aH,(by first | exact hX2 | exact World.alloc_heap_new _ _),aJ⟩
  case round =>
   try clear hX2
   try clear hb2
   clear d1 d2 d3 d4 d5 d6 d7 d8 d9 hn hn2;obtain⟨k,rfl,hk,HK,hX,hbr⟩:=hrel;obtain⟨x0,x1,x2,x3,x4,x5,x6⟩:=hX.facts;by_cases hlt:k<na
   ·obtain⟨x,hx⟩:∃ x,cl[k]? = some x:=⟨_,List.getElem?_eq_getElem (by have:=HLA.out;omega)⟩;obtain⟨b,o,rfl,hcell⟩:=(HA.out.keep hbr).2 aB;have hc1:wr.cell? ⟨b,o+k,none⟩=some (.string x):=hcell k _ gB;have hk0:(0:Int)<=(k:Int):=aB;have hk1:(k:Int)<(na:Int):=aB;have cN:=HNA.out x (List.mem_of_getElem? hx);cases hs:bU x
    ·obtain rfl:V=false:=by rw[HV.out,aDj hx hs];rfl
     rw[hs]at cN;have HC:=aA cN;clear hcell hx HK hs cN;go_wp2_with (go_at_call 50;refine (HC.out _).mono ?_;rintro e w2 ⟨rfl,hb2⟩);go_ret;exact⟨rfl,aJ⟩
    ·have HK2:Hid ((cl.take (k+1)).all bU=true):=aA (aDi HK.out hx hs);rw[hs]at cN;have HC:=aA cN;clear hcell hx HK hs cN;go_wp2_with (go_at_call 50;refine (HC.out _).mono ?_;rintro e w2 ⟨rfl,hb2⟩);exact⟨⟨k+1,bg,aB,HK2,Blk.keep hX hb2,aJ⟩,dD⟩
   ·obtain rfl:k=na:=aB;have hall:cl.all bU=true:=by
     have:=HK.out
     rwa [List.take_of_length_le (by have:=HLA.out;omega)]at this
    have hv5:V=(co.all iV&&SI si&&A7 cl&&A7 co):=aEz;have HV2:=aA hv5;clear hall hv5 HK HV HNA;go_wp2;clear x0 x1 x2 x3 x4 x5 x6;obtain⟨wo,rfl⟩:∃ wo:World,wo=wr:=⟨_,rfl⟩;go_loopw [4] (fun vi wz=>∃ j:Nat,vi=.int .i64 j/\j<=nb/\Hid ((co.take j).all iV=true)/\aX wz w.heap.size fr till pat A k ca B nb cb S ns cs us/\aF w wz) (fun i _=>nb-(intOf i).toNat)
    case atStart=>exact⟨0,rfl,Nat.zero_le _,aA aH,hX,hbr⟩
    case round =>
     clear hX hbr;obtain⟨j,rfl,hj,HJ,hX,hbr⟩:=hrel;obtain⟨x0,x1,x2,x3,x4,x5,x6⟩:=hX.facts;by_cases hlt2:j<nb
     ·obtain⟨x,hx⟩:∃ x,co[j]? = some x:=⟨_,List.getElem?_eq_getElem (by have:=HLB.out;omega)⟩;obtain⟨b,o,rfl,hcell⟩:=(HB.out.keep hbr).2 aB;have hc1:wr.cell? ⟨b,o+j,none⟩=some (.string x):=hcell j _ gB;have hj0:(0:Int)<=(j:Int):=aB;have hj1:(j:Int)<(nb:Int):=aB;have cN:=HCY.out x (List.mem_of_getElem? hx);cases hs:iV x
      ·obtain rfl:V=false:=by rw[HV2.out,aDj hx hs];rfl
       rw[hs]at cN;have HC:=aA cN;clear hcell hx HJ hs cN;go_wp2_with (go_at_call 67;refine (HC.out _).mono ?_;rintro e w2 ⟨rfl,hb2⟩);go_ret;exact⟨rfl,aJ⟩
      ·have HJ2:Hid ((co.take (j+1)).all iV=true):=aA (aDi HJ.out hx hs);rw[hs]at cN;have HC:=aA cN;clear hcell hx HJ hs cN;go_wp2_with (go_at_call 67;refine (HC.out _).mono ?_;rintro e w2 ⟨rfl,hb2⟩);exact⟨⟨j+1,bg,aB,HJ2,Blk.keep hX hb2,aJ⟩,dD⟩
     ·obtain rfl:j=nb:=aB;have hall:co.all iV=true:=by
       have:=HJ.out
       rwa [List.take_of_length_le (by have:=HLB.out;omega)]at this
      have hv6:V=(SI si&&A7 cl&&A7 co):=by rw[HV2.out,hall,Bool.true_and]
      have HV3:=aA hv6;clear hall hv6 HJ HV2 HCY;go_wp2;clear x0 x1 x2 x3 x4 x5 x6;obtain⟨wo2,rfl⟩:∃ wo2:World,wo2=wr:=⟨_,rfl⟩;go_loopw [5] (fun vi wz=>∃ i:Nat,vi=.int .i64 i/\i<=ns/\Hid ((List.range i).all (okK ltI jb si)=true)/\aX wz w.heap.size fr till pat A k ca B j cb S ns cs us/\aF w wz) (fun i _=>ns-(intOf i).toNat)
      case atStart=>exact⟨0,rfl,Nat.zero_le _,aA rfl,hX,hbr⟩
      case round =>
       clear hX hbr;obtain⟨i,rfl,hi,HI,hX,hbr⟩:=hrel;obtain⟨x0,x1,x2,x3,x4,x5,x6⟩:=hX.facts;by_cases hlt3:i<ns
       ·obtain⟨x,hx⟩:∃ x,si[i]? = some x:=⟨_,List.getElem?_eq_getElem (by have:=HLS.out;omega)⟩;obtain⟨b,o,rfl,hcell⟩:=(HS.out.keep hbr).2 aB;have hc1:wr.cell? ⟨b,o+i,none⟩=some (.int .i64 x):=hcell i _ gB;have hi0:(0:Int)<=(i:Int):=aB;have hi1:(i:Int)<(ns:Int):=aB;have hok:okK ltI jb si i=(jb x&&(i==0||(match si[i-1]? with
         | none=>true
         | some y=>ltI y x))):=by unfold okK;rw[hx];cases si[i-1]? <;> rfl
        have hfail:okK ltI jb si i=false->V=false:=fun h=>by rw[HV3.out,aPk (by have:=HLS.out;omega) h];rfl
        by_cases s0:0<=x;rotate_left
        ·obtain rfl:V=false:=hfail (by rw[hok];unfold jb;simp[s0]);have e0:decide (x<0)=true:=decide_eq_true aB;clear hcell hx HI hok hfail;exact aDw
        have e0:decide (x<0)=false:=decide_eq_false aB;by_cases s1:x<64;rotate_left
        ·obtain rfl:V=false:=hfail (by rw[hok];unfold jb;simp[s1]);have e1:decide (64<=x)=true:=decide_eq_true aB;clear hcell hx HI hok hfail;exact aDw
        have e1:decide (64<=x)=false:=decide_eq_false aB;have hsx:jb x=true:=decide_eq_true ⟨s0,s1⟩;rw[hsx,Bool.true_and]at hok;rcases i with _ | i
        ·have HI2:Hid ((List.range (0+1)).all (okK ltI jb si)=true):=aA (yK HI.out (by rw[hok];rfl));simp only[Nat.add_zero]at hc1;clear hcell hx HI hok hfail;go_wp2_with fail;go_quiet (fail);go_wp2;exact⟨⟨1,bg,aB,HI2,Blk.keep hX aJ,aJ⟩,dD⟩
        ·obtain⟨y,hy⟩:∃ y,si[i]? = some y:=⟨_,List.getElem?_eq_getElem (by have:=HLS.out;omega)⟩;have hc2:wr.cell? ⟨b,o+i,none⟩=some (.int .i64 y):=hcell i _ qH;have hle:=Uw x y;rw[Nat.add_sub_cancel,hy]at hok;have hok2:okK ltI jb si (i+1)=ltI y x:=by rw[hok];simp
         have hii0:(0:Int)<=(i:Int):=aB;have hii1:(i:Int)<(ns:Int):=aB;cases ht:ltI y x
         ·obtain rfl:V=false:=hfail (by rw[hok2,ht]);rw[ht]at hle;clear hcell hx HI hok hok2 hfail hy ht;exact aDw
         ·have HI2:Hid ((List.range (i+1+1)).all (okK ltI jb si)=true):=aA (yK HI.out (by rw[hok2,ht]));rw[ht]at hle;clear hcell hx HI hok hok2 hfail hy ht;go_wp2_with fail;go_quiet (fail);go_wp2;exact⟨⟨i+1+1,bg,aB,HI2,Blk.keep hX aJ,aJ⟩,dD⟩
       ·obtain rfl:i=ns:=aB;have hall:SI si=true:=by
         unfold SI;rw[<-HLS.out];exact HI.out
        have hv7:V=(A7 cl&&A7 co):=by rw[HV3.out,hall,Bool.true_and]
        have c1:=HAS1.out;have c2:=HAS2.out;obtain⟨a1,ha1⟩:∃ x,x=A7 cl:=⟨_,rfl⟩;obtain⟨a2,ha2⟩:∃ x,x=A7 co:=⟨_,rfl⟩;rw[<-ha1]at hv7 c1;rw[<-ha2]at hv7 c2;clear hall HI HV3 HAS1 HAS2 ha1 ha2;cases a1
        ·obtain rfl:V=false:=hv7;have C1:=aA c1;clear c1 c2;go_wp2_with (go_at_call 68;refine (C1.out _ aJ).mono ?_;rintro e w2 ⟨rfl,hb2⟩);go_ret;exact⟨rfl,aJ⟩
        ·obtain rfl:V=a2:=hv7;have C1:=aA c1;have C2:=aA c2;clear c1 c2;go_wp2_with (go_at_call 68;first | (refine (C1.out _ aJ).mono ?_;clear C1;rintro e w2 ⟨rfl,hb2⟩;have hX2:=Blk.keep hX hb2;obtain⟨y0,y1,y2,y3,y4,y5,y6⟩:=aX.facts hX2) | (refine (C2.out _ aJ).mono ?_;rintro e w3 ⟨rfl,hb3⟩));go_ret;exact⟨rfl,aJ⟩
theorem aPn(a:dN)(w:World)(h1:a.addr.size<=100000)(h2:a.client.size<=100000)(h3:a.country.size<=100000):Calls prog 39 #[dN.val a] w (Ret w (.bool (uz a))):=by
 obtain⟨ad,cl,co,si,lo,hi⟩:=a;dsimp only at h1 h2 h3;unfold dN.val;dsimp only;obtain⟨V,hV⟩:∃ V,V=uz ⟨ad,cl,co,si,lo,hi⟩:=⟨_,rfl⟩;rw[<-hV];unfold uz jb at hV;dsimp only at hV;have c1:=fun W=>aPi ad W aB
 have c2:=fun W=>aBx cl W aB
 have c3:=fun W=>aJk co W aB
 generalize qJ ad=b1 at *;generalize bU cl=b2 at *;generalize iV co=b3 at *;have C1:=aA c1;have C2:=aA c2;have C3:=aA c3;clear c1 c2 c3 h1 h2 h3;cases b1
 ·obtain rfl:V=false:=by rw[hV];rfl
  exact aBq
 cases b2
 ·obtain rfl:V=false:=by rw[hV];rfl
  exact aBq
 cases b3
 ·obtain rfl:V=false:=by rw[hV];rfl
  exact aBq
 by_cases t1:0<=si;rotate_left
 ·obtain rfl:V=false:=by rw[hV];simp[t1]
  have d1:decide (0<=si)=false:=decide_eq_false t1;exact aBq
 have d1:decide (0<=si)=true:=decide_eq_true t1;by_cases t2:si<64;rotate_left
 ·obtain rfl:V=false:=by rw[hV];simp[t2]
  have d2:decide (si<64)=false:=decide_eq_false t2;exact aBq
 have d2:decide (si<64)=true:=decide_eq_true t2;by_cases t3:0<=lo;rotate_left
 ·obtain rfl:V=false:=by rw[hV];simp[t3]
  have d3:decide (0<=lo)=false:=decide_eq_false t3;exact aBq
 have d3:decide (0<=lo)=true:=decide_eq_true t3;by_cases t4:lo<=hi;rotate_left
 ·obtain rfl:V=false:=by rw[hV];simp[t4]
  have d4:decide (lo<=hi)=false:=decide_eq_false t4;exact aBq
 have d4:decide (lo<=hi)=true:=decide_eq_true t4;obtain rfl:V=decide (hi<=1099511627776):=by rw[hV];simp[t1,t2,t3,t4]
 exact aBq
def aCl(a:dN):Bool:=decide (a.addr.size<=5000)&&decide (a.client.size<=5000)&&decide (a.country.size<=5000)
theorem aEe{a:dN}(h:aCl a=true):lD a:=by
 unfold aCl at h;simp only[Bool.and_eq_true,decide_eq_true_eq]at h;exact⟨aB,aB,aB⟩
theorem aPo(a:dN)(w:World):Calls prog 26 #[dN.val a] w (Ret w (.bool (aCl a))):=aMe a w
theorem aEf(n:Int)(h0:0<=n)(h1:n<=1099511627777):(ai n).size<=13:=by
 rw[Lib.size_eq,yO n h0];exact (Ja n.toNat aB).1
theorem aKf{a b:aC}{B:Nat}(ha:a.size<=B)(hb:b.size<=B):(orT a b).size<=B:=by
 unfold orT;split <;> assumption
theorem aGa(xs:List aC)(B n:Nat)(h:∀ x∈xs,x.size<=B)(hn:xs.length<=n):(dn xs).size<=n*(B+1)+1:=by
 unfold dn;refine aKf ?_ (by show 1<=_;omega);have h1:=Bc 44 B (xs.map (·.data.toList)) (by
  intro y hy;obtain⟨z,hz,rfl⟩:=List.mem_map.1 hy;have:=h z hz
  rwa [Lib.size_eq]at this)
 rw[List.length_map]at h1;have h2:xs.length*(B+1)<=n*(B+1):=Nat.mul_le_mul_right _ hn;unfold jr;rw[Lib.size_eq];show (Lib.join _ _).length<=_;omega
def lS(k:aj)(id:aC)(l:List aY):bz:=⟨k.party,k.ser,id,l,eU k ⟨k.party,k.ser,id,l,fH⟩⟩
theorem aPp(k:aj)(t u:bz)(h1:t.id=u.id)(h2:t.conds=u.conds):eU k t=eU k u:=by
 unfold eU yN;rw[h1,h2]
theorem aPq(k:aj)(id:aC)(l:List aY):eU k (lS k id l)=(lS k id l).sl:=aPp k _ _ rfl rfl
theorem aPr{k:aj}{id:aC}{c:aY}(hk:lQ k=true)(hn:bU id=true)(hc:bF c=true):jy k id c=(lS k id [c],0):=by
 have ok:=hk;unfold lQ at ok;rw[decide_eq_true_eq]at ok;have hv:gX ⟨k.party,k.ser,id,[c],fH⟩=true:=(vH _).2 ⟨ok.1,ok.2.1,ok.2.2.1,ok.2.2.2.1,hn,aH,aH,fun x hx=>by
  simp only[List.mem_cons,List.not_mem_nil,or_false]at hx;rw[hx];exact hc⟩
 unfold jy;rw[hk,hv];rfl
theorem aPs{k:aj}{id:aC}{c:aY}(hn:bU id=false):jy k id c=(iK,1):=by
 have hv:gX ⟨k.party,k.ser,id,[c],fH⟩=false:=by
  cases h:gX ⟨k.party,k.ser,id,[c],fH⟩ with
  | false=>rfl
  | true=>have:=((vH _).1 h).id;rw[show (⟨k.party,k.ser,id,[c],fH⟩:bz).id=id from rfl,hn]at this;cases this
 unfold jy;rw[hv,Bool.and_false];rfl
theorem aPt{k:aj}{id:aC}{l:List aY}{c:aY}(h:l ≠ []):(lS k id (l++[c])).sl=je (lS k id l).sl c:=by
 cases l with
 | nil=>exact absurd rfl h
 | cons x r =>
  unfold lS eU yN;show (r++[c]).foldl je _=je (r.foldl je _) c;rw[List.foldl_append];rfl
theorem aPu{k:aj}{id:aC}{l:List aY}{c:aY}(h:l ≠ [])(hc:bF c=true)(hl:l.length<16):kW (lS k id l) c=(lS k id (l++[c]),0):=by
 have hs:=aPt (k:=k) (id:=id) (c:=c) h;unfold kW;rw[if_pos hc,if_neg (show ¬ 16<=(lS k id l).conds.length by show ¬ 16<=l.length;omega),<-hs];rfl
theorem aKg{k:aj}{id:aC}{l:List aY}{lo hi:Int}:mY [k] (lS k id l) lo hi=if lT k lo hi then 0 else 9:=by
 have hf:kX [k] (lS k id l).cust (lS k id l).ser=some k:=by
  unfold kX;rw[List.find?_cons,show decide (k.party=(lS k id l).cust/\k.ser=(lS k id l).ser)=true from decide_eq_true ⟨rfl,rfl⟩]
 unfold mY;rw[hf];show (if lT k lo hi=true then (if eU k (lS k id l)=(lS k id l).sl then (0:Int) else 8) else 9)=_;rw[if_pos (aPq k id l)]
theorem aPv{k:aj}{id:aC}{l:List aY}{a:dN}:iY [k] (lS k id l) a=if lT k a.lo a.hi then (if l.all fun c=>fM c a then 0 else 250) else 9:=by
 unfold iY;rw[aKg];cases lT k a.lo a.hi
 ·rfl
 ·rfl
theorem aPw(k:aj)(id:aC)(l m:List aY):jR (lS k id l)=jR (lS k id m):=rfl
theorem aPx{l:List aY}{c:aY}(h:l ≠ []):sH (l++[c])=iH (sH l) c:=by
 cases l with
 | nil=>exact absurd rfl h
 | cons x r =>
  unfold sH;show (r++[c]).foldl iH x=iH (r.foldl iH x) c;rw[List.foldl_append];rfl
theorem aKh:∀(r:List aY)(x:aY),(bF x=true/\dE x)->(∀ c∈r,bF c=true/\dE c)->∀ a:dN,fM (r.foldl iH x) a=(fM x a&&r.all fun c=>fM c a)
 | [],x,_,_,a=>aH
 | c :: r,x,hx,hr,a=>by
  have hc:=hr c aH;rw[List.foldl_cons,aKh r (iH x c) (Xl ((mP _).1 hx.1) ((mP _).1 hc.1) hx.2 hc.2) (fun d hd=>hr d (by simp[hd])) a,aMa ((mP x).1 hx.1) ((mP c).1 hc.1),List.all_cons,Bool.and_assoc]
theorem aPy{l:List aY}(h:l ≠ [])(hv:∀ c∈l,bF c=true/\dE c)(a:dN):fM (sH l) a=l.all fun c=>fM c a:=by
 cases l with
 | nil=>exact absurd rfl h
 | cons x r =>
  show fM (r.foldl iH x) a=_;rw[aKh r x (hv x aH) (fun c hc=>hv c (by simp[hc])) a,List.all_cons]
theorem aKi:∀(r:List aY)(x:aY),(bF x=true/\dE x)->(∀ c∈r,bF c=true/\dE c)->bF (r.foldl iH x)=true/\dE (r.foldl iH x)
 | [],_,hx,_=>hx
 | c :: r,x,hx,hr=>by
  have hc:=hr c aH;exact aKi r (iH x c) (Xl ((mP _).1 hx.1) ((mP _).1 hc.1) hx.2 hc.2) (fun d hd=>hr d (by simp[hd]))
theorem aEg{l:List aY}(h:l ≠ [])(hv:∀ c∈l,bF c=true/\dE c):bF (sH l)=true/\dE (sH l):=by
 cases l with
 | nil=>exact absurd rfl h
 | cons x r=>exact aKi r x (hv x aH) (fun c hc=>hv c (by simp[hc]))
theorem aPz{l:List aY}{c:aY}(h:l ≠ [])(hv:∀ x∈l,bF x=true/\dE x)(hc:bF c=true):IB (sH (l++[c])) (sH l)=true:=by
 rw[aPx h];exact (aMc ((mP _).1 (aEg h hv).1) ((mP _).1 hc)).1
theorem aQa(c:UInt8)(l:List (List UInt8)):(Lib.join l [c]).length<=Lib.lens l+l.length:=by
 cases l with
 | nil=>simp[Lib.join_nil]
 | cons x r =>
  rw[Lib.join_cons,List.length_append,Lib.joinTail_length];simp only[Lib.lens,List.map_cons,List.sum_cons,List.length_cons,List.length_nil,Nat.zero_add,Nat.one_mul];omega
theorem aQb{c:aY}(hv:bF c=true)(hf:aBm c=true):(bK c).size<=6000:=by
 have ok:=(mP c).1 hv;unfold aBm aCg at hf;simp only[Bool.and_eq_true,decide_eq_true_eq,List.all_eq_true]at hf;obtain⟨⟨⟨⟨⟨h1,h2⟩,h3⟩,h4⟩,h5⟩,h6⟩:=hf;have f0:=aEf c.fr ok.fr0 (by have:=ok.fr1;omega);have f1:=aEf c.till ok.to0 ok.to1;have f6:=aEf c.us ok.us0 (by have:=ok.us1;omega);have f2:(orT c.pat ⟨#[126]⟩).size<=1000:=aKf h4 aK;have f3:=aGa c.cl 100 32 (fun x hx=>h5 x hx) ok.clLen;have f4:=aGa c.co 2 32 (fun x hx=>by
  have:=ok.co x hx;unfold iV at this;simp only[Bool.and_eq_true,decide_eq_true_eq]at this;omega) ok.coLen
 have f5:=aGa (c.si.map ai) 13 64 (by
  intro x hx;obtain⟨n,hn,rfl⟩:=List.mem_map.1 hx;have hs:=ok.si n hn;simp only[jb,Bool.and_eq_true,decide_eq_true_eq]at hs;exact aEf n aB aB) (by rw[List.length_map];exact ok.siLen)
 have hj:=aQa 32 ((kV c).map (·.data.toList));unfold bK;rw[Lib.size_eq];show (Lib.join _ _).length<=_;have hl:((kV c).map (·.data.toList)).length=7:=rfl;have he:Lib.lens ((kV c).map (·.data.toList))=(ai c.fr).size+(ai c.till).size+(orT c.pat ⟨#[126]⟩).size+(dn c.cl).size+(dn c.co).size+(dn (c.si.map ai)).size+(ai c.us).size:=by
  simp only[Lib.lens,kV,List.map_cons,List.map_nil,List.sum_cons,List.sum_nil,Lib.size_eq];omega
 rw[hl,he]at hj;omega
end Go.Proofs.YtlkbkclnbppigaaGreatDoor
