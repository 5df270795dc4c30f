/- What the specification's Both returns. -/
import Derived.Test.YtlkbkclnbppigaaGreatDoorQY4
set_option maxHeartbeats 32000000
namespace Go.Proofs.YtlkbkclnbppigaaGreatDoor
open Tryz
open Go.RowKit Go.Sort
set_option linter.unusedVariables false
set_option linter.unusedSimpArgs false
set_option maxRecDepth 100000
def SB(r:Option (Option Pat)):aC × Bool × Int:=match r with
 | none=>(⟨#[]⟩,false,1)
 | some none=>(⟨#[]⟩,false,0)
 | some (some z)=>(jq z,true,0)
theorem aMo(r:Option (Option Pat)):yF r=.tuple #[.string (SB r).1,.bool (SB r).2.1,.int .i64 (SB r).2.2]:=by
 rcases r with _ | _ | z <;> rfl
def aBk(w:World)(g:Nat)(s:aC)(b:Bool)(e:Int):Prop:=Blk w g 221 #[.string s,.bool b,.int .i64 e] (0,0)
theorem aBk.facts{w:World}{g:Nat}{s:aC}{b:Bool}{e:Int}(h:aBk w g s b e):w.cell? ⟨g,0,none⟩=some (.string s)/\w.cell? ⟨g,1,none⟩=some (.bool b)/\w.cell? ⟨g,2,none⟩=some (.int .i64 e)/\w.frozen? ⟨g,0,none⟩=false/\w.frozen? ⟨g,1,none⟩=false/\w.frozen? ⟨g,2,none⟩=false :=
 ⟨Blk.cell h 0,Blk.cell h 1,Blk.cell h 2,lJ h 0,lJ h 1,lJ h 2⟩
theorem aHs(B:Nat):∀ l:List (List UInt8),(∀ p∈l,p.length<=B)->(dF l).length<=l.length*(B+1)
 | [],_=>by simp[dF]
 | p :: l,h=>by
  have h1:=h p aH;have h2:=aHs B l (fun q hq=>h q (by simp[hq]));simp only[dF,List.flatMap_cons,List.length_append,List.length_cons]at h2 ⊢;rw[Nat.add_mul];omega
theorem aMp(c:aC)(xs:List aC)(k B:Nat)(h:∀ x∈xs,x.size<=B)(hk:xs.length<=100):(toB (kz c xs k)).size<=c.size+100*(B+1):=by
 rw[mg];unfold kz;have:=aHs B ((az xs).take k) (fun p hp=>by
  obtain⟨x,hx,rfl⟩:=List.mem_map.1 (List.mem_of_mem_take hp);have:=h x hx;rw[jY]at this;exact this)
 have hl:((az xs).take k).length<=100:=by
  rw[List.length_take];simp[az];omega
 rw[List.length_append,jY];have:=Nat.mul_le_mul_right (B+1) hl;omega
theorem aMq(z:Pat):jq z=if z.tail then toB (kz (I9 z.cust) (dX z.parts) z.parts.length)++⟨#[47,42,42]⟩ else toB (kz (I9 z.cust) (dX z.parts) z.parts.length):=by
 have hall:(az (dX z.parts)).take z.parts.length=az (dX z.parts):=List.take_of_length_le (by simp[az,dX]);have hd:(jq z).data.toList=(I9 z.cust).data.toList++dF (az (dX z.parts++iG z.tail)):=by
  rw[yD];exact yB _ _
 have hl:az (dX z.parts++iG z.tail)=az (dX z.parts)++az (iG z.tail):=by simp[az]
 have hp:∀ a b:List (List UInt8),dF (a++b)=dF a++dF b:=fun a b=>by simp[dF]
 rw[hl,hp]at hd;refine fK ?_;rw[hd];unfold kz;rw[hall];cases z.tail
 ·simp[iG,az,dF,toB]
 ·simp[iG,az,dF,toB]
theorem aEr(p q:aC)(w:World)(er:Int)(her:er=0\/er=1)(HMT:Hid (∀ W,Calls prog 228 #[.string p,.string q] W (Ret W (.agg #[.bool false,.int .i64 er])))) :
  Calls prog 177 #[.string p,.string q] w (Ret w (.agg #[.string ⟨#[]⟩,.bool false,.int .i64 er])):=by
 rcases her with rfl | rfl
 ·exact aHt
 ·exact aHt
theorem aMr(p q:aC)(x y z:Pat)(w:World)(hx:lK x)(hy:lK y)(gx:kQ x)(gyzz:kQ y)(hxy:jL x y=some z)(cu cv:aC)(n m:Nat)(tl tm:Bool)(hcu:cu=I9 x.cust)(hcv:cv=I9 y.cust)(hn:n=x.parts.length)(hm:m=y.parts.length)(htl:tl=x.tail)(htm:tm=y.tail)
  (HMT:Hid (∀ W,Calls prog 228 #[.string p,.string q] W (Ret W (.agg #[.bool true,.int .i64 0]))))
  (HC1:Hid (aCm p x cu n tl)) (HC2:Hid (aCm q y cv m tm)):Calls prog 177 #[.string p,.string q] w (Ret w (.agg #[.string (jq z),.bool true,.int .i64 0])):=by
 obtain⟨e1,e2,e3,e4⟩:=aMl hx hy hxy;obtain⟨V,hV⟩:∃ V,V=jq z:=⟨_,rfl⟩;rw[<-hV];rw[aMq,e1,e2,<-hn,<-hm,<-htl,<-htm]at hV;rw[<-hcu,<-hcv]at e4;rw[<-hn,<-hm]at e3;obtain⟨cz,hcz⟩:∃ cz,cz=I9 z.cust:=⟨_,rfl⟩;rw[<-hcz]at hV e4;have hn32:=gx.num;have hm32:=gyzz.num;rw[<-hn]at hn32;rw[<-hm]at hm32;have hPS:∀ z∈x.parts,gU z/\(I9 z).size<=200000:=fun z hz=>⟨hx.parts z hz,aHn⟩
 have hQS:∀ z∈y.parts,gU z/\(I9 z).size<=200000:=fun z hz=>⟨hy.parts z hz,aHo⟩
 have hcus:cu.size<=200000:=by rw[hcu];have:=GL x.cust.kind x.cust.text;have:=gx.text;unfold I9;omega
 have hcvs:cv.size<=200000:=by rw[hcv];have:=GL y.cust.kind y.cust.text;have:=gyzz.text;unfold I9;omega
 have hws:∀ k,(wAt x y k).size<=200000:=fun k=>by
  unfold wAt;have h1:∀ a,x.parts[k]? = some a->(I9 a).size<=200000:=fun a ha=>(hPS a (List.mem_of_getElem? ha)).2
  have h2:∀ a,y.parts[k]? = some a->(I9 a).size<=200000:=fun a ha=>(hQS a (List.mem_of_getElem? ha)).2
  cases ha:x.parts[k]? with
  | none =>
   cases hb:y.parts[k]? with
   | none=>exact (by decide:(1:Nat)<=200000)
   | some b =>
    dsimp only;split
    ·exact h2 b hb
    ·exact (by decide:(1:Nat)<=200000)
  | some a =>
   cases hb:y.parts[k]? with
   | none=>exact h1 a ha
   | some b =>
    dsimp only;split
    ·exact h2 b hb
    ·exact h1 a ha
 have hzl:(dX z.parts).length=max n m:=by rw[aLo,e2,hn,hm]
 have hzs:∀ s∈dX z.parts,s.size<=200000:=fun s hs=>by
  obtain⟨k,hk,rfl⟩:=List.getElem_of_mem hs;have h5:=e3 k aB;rw[List.getElem?_eq_getElem hk]at h5;injection h5 with h5
  rw[h5];exact hws k
 have hbd:∀ k,(toB (kz cz (dX z.parts) k)).size<=40000000:=fun k=>by
  have:=aMp cz (dX z.parts) k 200000 hzs aB;have:cz.size<=200000:=by rw[e4];split <;> assumption
  omega
 have hc0:toB (kz cz (dX z.parts) 0)=cz:=by simp[kz,dF,toB]
 have hadd:∀ k,k<max n m->toB (kz cz (dX z.parts) k)++⟨#[47]⟩++wAt x y k=toB (kz cz (dX z.parts) (k+1)):=fun k hk=>aJq _ _ _ _ (e3 k hk)
 have HPS:=aA hPS;have HQS:=aA hQS;have HN:=aA hn;have HM:=aA hm;have HV:=aA hV;have HADD:=aA hadd;have HBD:=aA hbd;have HC0:=aA hc0;have HE4:=aA e4;have HWS:=aA hws;clear hV hcu hcv hn hm htl htm hPS hQS hx hy gx gyzz e1 e2 e3 e4 hcz hws hzl hzs hbd hc0 hadd hxy;generalize dX z.parts=zs at *;have hEND:(cu.toList == [42])=true/\cu.toList=[42]/\cz=cv\/(cu.toList == [42])=false/\¬ cu.toList=[42]/\cz=cu:=by
  cases h:(cu.toList == [42])
  ·exact .inr ⟨rfl,nD,by rw[HE4.out,if_neg (by rw[h];decide)]⟩
  ·exact .inl ⟨rfl,nD,by rw[HE4.out,if_pos h]⟩
 rcases hEND with ⟨t1,t1',hz⟩ | ⟨t1,t1',hz⟩
 all_goals
  go_enter func177,ntmps177;go_wp2_with (first | (go_at_call 228;refine (HMT.out _).mono ?_;rintro e w1 ⟨rfl,hb1⟩;have hJ1:aBk w1 w.heap.size ⟨#[]⟩ false 0:=Blk.keep (World.alloc_heap_new _ _) hb1;obtain⟨j0,j1,j2,f0,f1,f2⟩:=hJ1.facts;have hz1:w.heap.size<w1.heap.size:=Blk.lt hJ1) | (go_at_call 130;refine (HC1.out _).mono ?_;rintro e w2 ⟨hb2,A,c,rfl,hR⟩;have HR:=aA hR;clear hR;have hJ2:aBk w2 w.heap.size ⟨#[]⟩ false 0:=Blk.keep hJ1 (dZ _ hb2);clear HC1) | (go_at_call 130;refine (HC2.out _).mono ?_;rintro e w3 ⟨hb3,B,c2,rfl,hR2⟩;have HR2:=aA hR2;clear hR2;have hJ3:aBk w3 w.heap.size ⟨#[]⟩ false 0:=Blk.keep hJ2 (dZ _ hb3);have hX3:JA w3 w2.heap.size cu (.slice A n c) tl:=(hb3.block w2.heap.size aH).trans (World.alloc_heap_new _ _);clear j0 j1 j2 f0 f1 f2;obtain⟨x0,x1,x2,_⟩:=hX3.facts;have hz3:w2.heap.size<w3.heap.size:=Blk.lt hX3;have hz33:w.heap.size<w3.heap.size:=Blk.lt hJ3))
 all_goals
  clear x0 x1 x2 t1 t1';go_loopw [10,11] (fun vo vi wr=>∃ k:Nat,vi=.int .i64 k/\k<=max n m/\vo=.string (toB (kz cz zs k))/\aBk wr w.heap.size ⟨#[]⟩ false 0/\JA wr w2.heap.size cu (.slice A n c) tl/\JA wr w3.heap.size cv (.slice B m c2) tm/\aF w wr/\aF w2 wr/\aF w3 wr) (fun _ vi _=>max n m-(intOf vi).toNat)
  case atStart=>exact⟨0,rfl,Nat.zero_le _,by rw[HC0.out,hz],(Below.heap_alloc _ _ _ hz33).trans hJ3,(Below.heap_alloc _ _ _ hz3).trans hX3,World.alloc_heap_new _ _,aJ,aU (dZ _ hb3) _,aU (Below.refl _ _) _⟩
  case round =>
   clear hJ3 hX3;obtain⟨k,rfl,hk,rfl,hJ,hX,hY,hbr,hbr2,hbr3⟩:=hrel;obtain⟨x0,x1,x2,_⟩:=hX.facts;obtain⟨y0,y1,y2,_⟩:=hY.facts;by_cases hlt:k<max n m
   ·have hs:=HBD.out k;have hA:=HADD.out k hlt;have hw:=HWS.out k;unfold wAt at hA hw;have hmx:(max (n:Int) (m:Int))=((max n m:Nat):Int):=aB;by_cases hkn:k<n
    ·have dnzz:decide ((k:Int)<(n:Int))=true:=decide_eq_true aB;obtain⟨a,ha⟩:∃ a,x.parts[k]? = some a:=⟨_,List.getElem?_eq_getElem o6⟩;obtain⟨b,o,rfl,hcell⟩:=(HR.out.keep hbr2).2 aB;have hc1:wr.cell? ⟨b,o+k,none⟩=some (.string (I9 a)):=hcell k _ (by rw[List.getElem?_map,aCh _ _ _ ha];rfl);rw[ha]at hA hw;obtain⟨haf,has⟩:=HPS.out a (List.mem_of_getElem? ha);clear hcell ha haf;by_cases hkm:k<m
     ·have dmzz:decide ((k:Int)<(m:Int))=true:=decide_eq_true aB;obtain⟨z',hz'⟩:∃ z',y.parts[k]? = some z':=⟨_,List.getElem?_eq_getElem aCg⟩;obtain⟨b2,o2,rfl,hcell2⟩:=(HR2.out.keep hbr3).2 aB;have hc2:wr.cell? ⟨b2,o2+k,none⟩=some (.string (I9 z')):=hcell2 k _ (by rw[List.getElem?_map,aCh _ _ _ hz'];rfl);rw[hz']at hA hw;obtain⟨hzf,hzs⟩:=HQS.out z' (List.mem_of_getElem? hz');dsimp only at hA hw;have cM:=fun W=>aCw (I9 a) (I9 z') W aB aB
      clear hcell2 hz' hzf;generalize I9 a=sa at *;generalize I9 z'=sz at *;generalize F5 sa sz=cv' at *;generalize toB (kz cz zs k)=S at *;have HCV:=aA cM;have HA:=aA hA;clear cM hA;have n1:¬ 9223372036854775807<S.size+1:=aB;have n2:¬ 9223372036854775807<S.size+1+sa.size:=aB;exact aHu
     ·have dmzz:decide ((k:Int)<(m:Int))=false:=decide_eq_false aB;have hb:y.parts[k]? = none:=List.getElem?_eq_none aCg;rw[hb]at hA hw;dsimp only at hA hw;clear hb;generalize I9 a=sa at *;generalize toB (kz cz zs k)=S at *;have HA:=aA hA;clear hA;have n1:¬ 9223372036854775807<S.size+1:=aB;have n2:¬ 9223372036854775807<S.size+1+sa.size:=aB;go_wp2;exact⟨⟨k+1,bg,aB,congrArg Value.string HA.out,hJ,hX,hY,hbr,hbr2,hbr3⟩,dD⟩
    ·have dnzz:decide ((k:Int)<(n:Int))=false:=decide_eq_false aB;have hkm:k<m:=aB;have dmzz:decide ((k:Int)<(m:Int))=true:=decide_eq_true aB;have ha:x.parts[k]? = none:=List.getElem?_eq_none o6;rw[ha]at hA hw;obtain⟨z',hz'⟩:∃ z',y.parts[k]? = some z':=⟨_,List.getElem?_eq_getElem aCg⟩;obtain⟨b2,o2,rfl,hcell2⟩:=(HR2.out.keep hbr3).2 aB;have hc2:wr.cell? ⟨b2,o2+k,none⟩=some (.string (I9 z')):=hcell2 k _ (by rw[List.getElem?_map,aCh _ _ _ hz'];rfl);rw[hz']at hA hw;obtain⟨hzf,hzs⟩:=HQS.out z' (List.mem_of_getElem? hz');dsimp only at hA hw;have cM:=fun W=>aCw ⟨#[42]⟩ (I9 z') W aK aB
     clear hcell2 hz' hzf ha;generalize I9 z'=sz at *;generalize F5 ⟨#[42]⟩ sz=cv' at *;generalize toB (kz cz zs k)=S at *;have HCV:=aA cM;have HA:=aA hA;clear cM hA;have n1:¬ 9223372036854775807<S.size+1:=aB;have n2:¬ 9223372036854775807<S.size+1+1:=aB;exact aHu
   ·obtain rfl:k=max n m:=aB;have hs:=HBD.out (max n m);have hV:=HV.out;have hmx:(max (n:Int) (m:Int))=((max n m:Nat):Int):=aB;have hmm:¬ ((max n m:Nat):Int)<(n:Int)/\¬ ((max n m:Nat):Int)<(m:Int):=aB;obtain⟨j0,j1,j2,f0,f1,f2⟩:=hJ.facts;have hz9:w.heap.size<wr.heap.size:=Blk.lt hJ;generalize toB (kz cz zs (max n m))=S at *;have n1:¬ 9223372036854775807<S.size+3:=aB;cases tl
    ·simp only[Bool.false_and,Bool.false_eq_true,if_false]at hV;exact aHv
    ·cases tm
     ·simp only[Bool.and_false,Bool.false_eq_true,if_false]at hV;exact aHv
     ·simp only[Bool.and_self,if_true]at hV;subst hV;go_wp2;exact bodyPost_ret (v:=.agg #[.string (S++⟨#[47,42,42]⟩),.bool true,.int .i64 0]) aHw rfl ⟨rfl,aJ⟩
theorem aMs(p q:aC)(w:World)(hp:p.size<=100000)(hq:q.size<=100000):Calls prog 177 #[.string p,.string q] w (Ret w (.agg #[.string (SB (mQ p q)).1,.bool (SB (mQ p q)).2.1,.int .i64 (SB (mQ p q)).2.2])):=by
 have cM:=fun W=>aMn p q W hp hq
 unfold aDh at cM;unfold mQ;cases hx:dI p with
 | none =>
  rw[hx]at cM;exact aEr p q w 1 (.inr rfl) (aA cM)
 | some x =>
  cases hy:dI q with
  | none =>
   rw[hx,hy]at cM;exact aEr p q w 1 (.inr rfl) (aA cM)
  | some y =>
   rw[hx,hy]at cM;have cM2:∀ W,Calls prog 228 #[.string p,.string q] W (Ret W (.agg #[.bool (jL x y).isSome,.int .i64 0])):=cM;show Calls prog 177 #[.string p,.string q] w (Ret w (.agg #[.string (SB (some (jL x y))).1,.bool (SB (some (jL x y))).2.1,.int .i64 (SB (some (jL x y))).2.2]));cases hz:jL x y with
   | none =>
    rw[hz]at cM2;exact aEr p q w 0 (.inl rfl) (aA cM2)
   | some z =>
    rw[hz]at cM2;exact aMr p q x y z w (rZ hx) (rZ hy) (ul p hp x hx) (ul q hq y hy) hz _ _ _ _ _ _ rfl rfl rfl rfl rfl rfl (aA cM2) (aA (aDf hp hx)) (aA (aDf hq hy))
theorem aMt(a b:Int)(w:World)(ha:0<=a)(hb:0<=b):Calls prog 116 #[.int .i64 a,.int .i64 b] w (Ret w (.int .i64 (fF a b))):=by
 by_cases h1:a=0
 ·have d1:(a==0)=true:=by simpa using h1
  have hv:fF a b=b:=by unfold fF;split <;> omega
  rw[hv];go_enter func116,ntmps116;go_wp2;go_ret;exact⟨rfl,aJ⟩
 have d1:(a==0)=false:=by simpa using h1
 by_cases h2:b=0
 ·have d2:(b==0)=true:=by simpa using h2
  have hv:fF a b=a:=by unfold fF;split <;> omega
  rw[hv];go_enter func116,ntmps116;go_wp2;go_ret;exact⟨rfl,aJ⟩
 have d2:(b==0)=false:=by simpa using h2
 have hv:fF a b=min a b:=by unfold fF;rw[if_pos aB]
 rw[hv];go_enter func116,ntmps116;go_wp2;go_ret;exact⟨wS (by first | rfl | omega),aJ⟩
def aBl(p q:aC):aC × Bool:=if p.size=0 then (q,true) else if q.size=0 then (p,true) else ((SB (mQ p q)).1,(SB (mQ p q)).2.1)
theorem aMu(p q:aC)(w:World)(hp:p.size<=100000)(hq:q.size<=100000):Calls prog 113 #[.string p,.string q] w (Ret w (.tuple #[.string (aBl p q).1,.bool (aBl p q).2])):=by
 have hE:∀ s:aC,s.size=0->s.toList=[]:=fun s h=>aEi
 have hN:∀ s:aC,s.size≠0->¬ s.toList=[]:=fun s h e=>h zu
 unfold aBl;by_cases h1:p.size=0
 ·have e1:=hE p h1;have e2:(p.toList == [])=true:=by rw[e1];rfl
  rw[if_pos h1];go_enter func113,ntmps113;go_wp2;go_ret2;exact⟨rfl,aJ⟩
 have e1:=hN p h1;have e2:(p.toList == [])=false:=by simpa using e1
 rw[if_neg h1];by_cases h2:q.size=0
 ·have e3:=hE q h2;have e4:(q.toList == [])=true:=by rw[e3];rfl
  rw[if_pos h2];go_enter func113,ntmps113;go_wp2;go_ret2;exact⟨rfl,aJ⟩
 have e3:=hN q h2;have e4:(q.toList == [])=false:=by simpa using e3
 rw[if_neg h2];have cB:=fun W=>aMs p q W hp hq
 generalize SB (mQ p q)=r at *;obtain⟨s,t,f⟩:=r;dsimp only at cB ⊢;have CB:=aA cB;clear cB;go_enter func113,ntmps113;go_wp2_with (go_at_call 177;refine (CB.out _).mono ?_;rintro e w2 ⟨rfl,hb2⟩;have hJ:aBk (w2.alloc (.cells #[.string s,.bool t,.int .i64 f] 221)) w2.heap.size s t f:=World.alloc_heap_new _ _;obtain⟨j0,j1,j2,_⟩:=hJ.facts);go_quiet (fail);go_wp2;go_ret2;exact⟨rfl,aJ⟩
theorem aHx:(prog.info? 3).map (fun i=>(i.zero,i.size,i.bytes))=some (some (.int .i64 0),1,8):=by kernel_rfl
theorem aHy{α:Type} [DecidableEq α] (ys:List α):eP [] ys=ys/\gW [] ys=true:=by
 have h:=UF ys;exact aHz
theorem aIa{α:Type} [DecidableEq α] (xs:List α):eP xs []=xs/\gW xs []=true:=by
 have h:=UG xs;exact aHz
theorem aIb{α:Type} [DecidableEq α] {xs ys:List α} (h1:xs ≠ []) (h2:ys ≠ []):eP xs ys=xs.filter (fun x=>AL ys x)/\gW xs ys = !(eP xs ys).isEmpty:=by
 have e1:xs.isEmpty=false:=by cases xs;exact absurd rfl h1;rfl
 have e2:ys.isEmpty=false:=by cases ys;exact absurd rfl h2;rfl
 unfold gW eP;rw[e1];simp only[Bool.false_eq_true,if_false,e1,Bool.or_false,and_true];congr 1;funext x;unfold bG;rw[e2,Bool.false_or];rfl
theorem aIc{α:Type}(f:α->Bool){l:List α}{k:Nat}{x:α}(hx:l[k]? = some x):(l.take (k+1)).filter f=(l.take k).filter f++(if f x then [x] else []):=by
 rw[List.take_add_one,hx,Option.toList_some,List.filter_append];congr 1;simp only[List.filter_cons,List.filter_nil]
def aEs(xs ys:List aC)(w:World)(e:Ending)(w':World):Prop :=
 aF w w'/\∃ S cs,e=.returned (.tuple #[.slice S (eP xs ys).length cs,.bool (gW xs ys)])/\aI w' 1 S (eP xs ys).length ((eP xs ys).map .string)
theorem aId(A:Option Addr)(n c:Nat)(B:Option Addr)(m d:Nat)(xs ys:List aC)(w:World)(hA:aI w 1 A n (xs.map .string))(hB:aI w 1 B m (ys.map .string))(hn:n<=1000000)(hm:m<=1000000) :
  Calls prog 114 #[.slice A n c,.slice B m d] w (aEs xs ys w):=by
 have hl:xs.length=n:=jK;have hl2:ys.length=m:=Ag;have hbf:=fun h1 h2=>aIb (xs:=xs) (ys:=ys) h1 h2
 obtain⟨F,hF⟩:∃ F,F=eP xs ys:=⟨_,rfl⟩;obtain⟨K,hK⟩:∃ K,K=gW xs ys:=⟨_,rfl⟩;unfold aEs;rw[<-hF,<-hK];by_cases h1:n=0
 ·subst h1;obtain rfl:xs=[]:=List.eq_nil_of_length_eq_zero hl;obtain⟨e1,e2⟩:=aHy ys;obtain rfl:F=ys:=by rw[hF,e1]
  obtain rfl:K=true:=by rw[hK,e2]
  rw[hl2];clear hF hK hbf e1 e2 hl;go_enter func114,ntmps114;go_wp2;go_ret2;exact⟨aJ,_,_,rfl,hB⟩
 by_cases h2:m=0
 ·subst h2;obtain rfl:ys=[]:=List.eq_nil_of_length_eq_zero hl2;obtain⟨e1,e2⟩:=aIa xs;obtain rfl:F=xs:=by rw[hF,e1]
  obtain rfl:K=true:=by rw[hK,e2]
  rw[hl];have z1:((n:Int)==0)=false:=aP;clear hF hK hbf e1 e2 hl2;go_enter func114,ntmps114;go_wp2;go_ret2;exact⟨aJ,_,_,rfl,hA⟩
 obtain⟨e1,e2⟩:=hbf aEl (by intro e;rw[e]at hl2;simp at hl2;omega);rw[e2,<-hF]at hK;rw[e1]at hF;have z1:((n:Int)==0)=false:=aP;have z2:((m:Int)==0)=false:=aP;obtain⟨i0,hi0,hz0,hz1,hz2⟩:=info_parts rY;have HI:Hid ((prog.info? 9=some i0)/\i0.zero=some (.string ⟨#[]⟩)/\i0.size=1/\i0.bytes=16):=aA ⟨hi0,hz0,hz1,hz2⟩;have cH:=fun (s:aC) (W:World) (hb:aF w W)=>aLe B m d ys s W (hB.keep hb) aB
 have HL:=aA hl;have HA:=aA hA;have HH:=aA cH;have HF:=aA hF;have HK0:=aA hK;clear hi0 hz0 hz1 hz2 hl hl2 hA hB hbf e1 e2 hF hK cH;go_enter func114,ntmps114;go_wp2;go_loopw [6,7] (fun va vi wr=>∃(k p:Nat)(acc:List aC)(A':Option Addr)(c':Nat),(vi=.int .i64 k/\va=.slice A' p c'/\k<=n/\p<=k)/\Hid (acc=(xs.take k).filter (fun x=>AL ys x)/\acc.length=p)/\wr.ownsRow w.heap.size 9 1 (.slice A' p c') p (acc.map .string)/\aF w wr) (fun _ i _=>n-(intOf i).toNat)
 case atStart=>exact⟨0,0,[],none,0,⟨rfl,rfl,Nat.zero_le _,Nat.le_refl _⟩,aA ⟨rfl,rfl⟩,World.ownsRow_nil _ _ _ _,Below.refl _ _⟩
 case round =>
  obtain⟨k,p,acc,A',c',⟨rfl,rfl,hk,hp⟩,HK,hown,hbr⟩:=hrel;have hbs:=hbr.size;by_cases hlt:k<n
  ·obtain⟨x,hx⟩:∃ x,xs[k]? = some x:=⟨_,List.getElem?_eq_getElem gV⟩;obtain⟨b,o,rfl,hcell⟩:=(HA.out.keep hbr).2 aB;have hc1:wr.cell? ⟨b,o+k,none⟩=some (.string x):=hcell k _ gB;have hk0:(0:Int)<=(k:Int):=aB;have hk1:(k:Int)<(n:Int):=aB;have cH:=HH.out x;have hst:=aIc (fun x=>AL ys x) hx;rw[<-HK.out.1]at hst;have hml:=HK.out.2;cases ht:AL ys x
   ·rw[ht]at cH;rw[ht]at hst;have HK2:Hid (acc=(xs.take (k+1)).filter (fun x=>AL ys x)/\acc.length=p):=aA ⟨by rw[hst];simp,hml⟩;have HC:=aA cH;clear hcell hx cH ht hst hml HK;go_wp2_with (go_at_call 128;refine (HC.out _ aJ).mono ?_;rintro e w2 ⟨rfl,hb2⟩);exact aIe
   ·rw[ht]at cH;rw[ht]at hst;have HK2:Hid (acc++[x]=(xs.take (k+1)).filter (fun x=>AL ys x)/\(acc++[x]).length=p+1):=aA ⟨by rw[hst];simp,by simp[hml]⟩;have HC:=aA cH;clear hcell hx cH ht hst hml HK;go_wp2_with (first | (go_at_call 128;refine (HC.out _ aJ).mono ?_;rintro e w2 ⟨rfl,hb2⟩;have hc2:=aW hb2 hc1;have hown2:=fZ hown hb2;have hbr2:=aV hbr hb2;have hbs2:=hbr2.size) | (at_builtin;refine wpList_append_own _ rfl _ _ 24 rfl w.heap.size 9 i0 (.string ⟨#[]⟩) 1 16 underlying24 HI.out.1 HI.out.2.1 HI.out.2.2.1 HI.out.2.2.2 rfl aK _ _ _ rfl (hown2.alloc _) ⟨w2.heap.size,0,none⟩ 1 1 [.string x] rfl rfl (cell_one_new _ _ _) jJ dh aB aP ?_;intro v' w3 hown1 hgrow1 _;obtain⟨g1,cap1,rfl⟩:=ownsRow_succ hown1;have hb3:aF w w3:=(hbr2.alloc hbs2 _).grown hgrow1 aP (fun r e=>fE hown2 r e)));exact aIf
  ·exact aIg
def aEt(xs ys:List Int)(w:World)(e:Ending)(w':World):Prop :=
 aF w w'/\∃ S cs,e=.returned (.tuple #[.slice S (eP xs ys).length cs,.bool (gW xs ys)])/\aI w' 1 S (eP xs ys).length ((eP xs ys).map (.int .i64))
theorem aMv(A:Option Addr)(n c:Nat)(B:Option Addr)(m d:Nat)(xs ys:List Int)(w:World)(hA:aI w 1 A n (xs.map (.int .i64)))(hB:aI w 1 B m (ys.map (.int .i64)))(hn:n<=1000000)(hm:m<=1000000) :
  Calls prog 115 #[.slice A n c,.slice B m d] w (aEt xs ys w):=by
 have hl:xs.length=n:=jK;have hl2:ys.length=m:=Ag;have hbf:=fun h1 h2=>aIb (xs:=xs) (ys:=ys) h1 h2
 obtain⟨F,hF⟩:∃ F,F=eP xs ys:=⟨_,rfl⟩;obtain⟨K,hK⟩:∃ K,K=gW xs ys:=⟨_,rfl⟩;unfold aEt;rw[<-hF,<-hK];by_cases h1:n=0
 ·subst h1;obtain rfl:xs=[]:=List.eq_nil_of_length_eq_zero hl;obtain⟨e1,e2⟩:=aHy ys;obtain rfl:F=ys:=by rw[hF,e1]
  obtain rfl:K=true:=by rw[hK,e2]
  rw[hl2];clear hF hK hbf e1 e2 hl;go_enter func115,ntmps115;go_wp2;go_ret2;exact⟨aJ,_,_,rfl,hB⟩
 by_cases h2:m=0
 ·subst h2;obtain rfl:ys=[]:=List.eq_nil_of_length_eq_zero hl2;obtain⟨e1,e2⟩:=aIa xs;obtain rfl:F=xs:=by rw[hF,e1]
  obtain rfl:K=true:=by rw[hK,e2]
  rw[hl];have z1:((n:Int)==0)=false:=aP;clear hF hK hbf e1 e2 hl2;go_enter func115,ntmps115;go_wp2;go_ret2;exact⟨aJ,_,_,rfl,hA⟩
 obtain⟨e1,e2⟩:=hbf aEl (by intro e;rw[e]at hl2;simp at hl2;omega);rw[e2,<-hF]at hK;rw[e1]at hF;have z1:((n:Int)==0)=false:=aP;have z2:((m:Int)==0)=false:=aP;obtain⟨i0,hi0,hz0,hz1,hz2⟩:=info_parts aHx;have HI:Hid ((prog.info? 3=some i0)/\i0.zero=some (.int .i64 0)/\i0.size=1/\i0.bytes=8):=aA ⟨hi0,hz0,hz1,hz2⟩;have cH:=fun (s:Int) (W:World) (hb:aF w W)=>aLf B m d ys s W (hB.keep hb) aB
 have HL:=aA hl;have HA:=aA hA;have HH:=aA cH;have HF:=aA hF;have HK0:=aA hK;clear hi0 hz0 hz1 hz2 hl hl2 hA hB hbf e1 e2 hF hK cH;go_enter func115,ntmps115;go_wp2;go_loopw [6,7] (fun va vi wr=>∃(k p:Nat)(acc:List Int)(A':Option Addr)(c':Nat),(vi=.int .i64 k/\va=.slice A' p c'/\k<=n/\p<=k)/\Hid (acc=(xs.take k).filter (fun x=>AL ys x)/\acc.length=p)/\wr.ownsRow w.heap.size 3 1 (.slice A' p c') p (acc.map (.int .i64))/\aF w wr) (fun _ i _=>n-(intOf i).toNat)
 case atStart=>exact⟨0,0,[],none,0,⟨rfl,rfl,Nat.zero_le _,Nat.le_refl _⟩,aA ⟨rfl,rfl⟩,World.ownsRow_nil _ _ _ _,Below.refl _ _⟩
 case round =>
  obtain⟨k,p,acc,A',c',⟨rfl,rfl,hk,hp⟩,HK,hown,hbr⟩:=hrel;have hbs:=hbr.size;by_cases hlt:k<n
  ·obtain⟨x,hx⟩:∃ x,xs[k]? = some x:=⟨_,List.getElem?_eq_getElem gV⟩;obtain⟨b,o,rfl,hcell⟩:=(HA.out.keep hbr).2 aB;have hc1:wr.cell? ⟨b,o+k,none⟩=some (.int .i64 x):=hcell k _ gB;have hk0:(0:Int)<=(k:Int):=aB;have hk1:(k:Int)<(n:Int):=aB;have cH:=HH.out x;have hst:=aIc (fun x=>AL ys x) hx;rw[<-HK.out.1]at hst;have hml:=HK.out.2;cases ht:AL ys x
   ·rw[ht]at cH;rw[ht]at hst;have HK2:Hid (acc=(xs.take (k+1)).filter (fun x=>AL ys x)/\acc.length=p):=aA ⟨by rw[hst];simp,hml⟩;have HC:=aA cH;clear hcell hx cH ht hst hml HK;go_wp2_with (go_at_call 129;refine (HC.out _ aJ).mono ?_;rintro e w2 ⟨rfl,hb2⟩);exact aIe
   ·rw[ht]at cH;rw[ht]at hst;have HK2:Hid (acc++[x]=(xs.take (k+1)).filter (fun x=>AL ys x)/\(acc++[x]).length=p+1):=aA ⟨by rw[hst];simp,by simp[hml]⟩;have HC:=aA cH;clear hcell hx cH ht hst hml HK;go_wp2_with (first | (go_at_call 129;refine (HC.out _ aJ).mono ?_;rintro e w2 ⟨rfl,hb2⟩;have hc2:=aW hb2 hc1;have hown2:=fZ hown hb2;have hbr2:=aV hbr hb2;have hbs2:=hbr2.size) | (at_builtin;refine wpList_append_own _ rfl _ _ 25 rfl w.heap.size 3 i0 (.int .i64 0) 1 8 underlying25 HI.out.1 HI.out.2.1 HI.out.2.2.1 HI.out.2.2.2 rfl aK _ _ _ rfl (hown2.alloc _) ⟨w2.heap.size,0,none⟩ 1 1 [.int .i64 x] rfl rfl (cell_one_new _ _ _) jJ dh aB aP ?_;intro v' w3 hown1 hgrow1 _;obtain⟨g1,cap1,rfl⟩:=ownsRow_succ hown1;have hb3:aF w w3:=(hbr2.alloc hbs2 _).grown hgrow1 aP (fun r e=>fE hown2 r e)));exact aIf
  ·exact aIg
theorem aEu(w:World)(o1 o2 o3:Obj):(((w.alloc o1).alloc o2).alloc o3).heap[w.heap.size]? = some o1/\(((w.alloc o1).alloc o2).alloc o3).heap[w.heap.size+1]? = some o2/\(((w.alloc o1).alloc o2).alloc o3).heap[w.heap.size+1+1]? = some o3:=by
 refine⟨(Below.heap_alloc _ _ _ aP).trans (vC w o1 o2).1,(Below.heap_alloc _ _ _ aH).trans (vC w o1 o2).2,?_⟩;have:=World.alloc_heap_new ((w.alloc o1).alloc o2) o3
 rwa [World.size_alloc,World.size_alloc]at this
theorem aMw{p q:aC}(hp:gY p=true)(hq:gY q=true):(aBl p q).2=qf p q/\(aBl p q).1=nV p q:=by
 unfold aBl;by_cases h1:p.size=0
 ·obtain⟨e1,e2⟩:=CY (p:=p) (q:=q) (.inl h1);rw[if_pos h1,e1,e2,if_pos h1];exact⟨rfl,rfl⟩
 by_cases h2:q.size=0
 ·obtain⟨e1,e2⟩:=CY (p:=p) (q:=q) (.inr h2);rw[if_neg h1,if_pos h2,e1,e2,if_neg h1];exact⟨rfl,rfl⟩
 rw[if_neg h1,if_neg h2];have h:=V8 hp hq h1 h2;rw[aMo]at h;simp at h;exact⟨h.2.1,h.1⟩
theorem aEv{w:World}{g:Nat}{t:TypeId}{c0 c1 c2 c3 c4 c5 c6 c7:Value}(h:Blk w g t #[c0,c1,c2,c3,c4,c5,c6,c7] (0,0))(v0 v1 v2 v3 v4 v5 v6 v7:Value):Blk ((((((((w.setCell ⟨g,0,none⟩ v0).setCell ⟨g,1,none⟩ v1).setCell ⟨g,2,none⟩ v2).setCell ⟨g,3,none⟩ v3).setCell ⟨g,4,none⟩ v4).setCell ⟨g,5,none⟩ v5).setCell ⟨g,6,none⟩ v6).setCell ⟨g,7,none⟩ v7) g t #[v0,v1,v2,v3,v4,v5,v6,v7] (0,0):=by
 have h0:=Blk.set_ h 0 v0;simp only[ag]at h0;have h1:=Blk.set_ h0 1 v1;simp only[ag]at h1;have h2:=Blk.set_ h1 2 v2;simp only[ag]at h2;have h3:=Blk.set_ h2 3 v3;simp only[ag]at h3;have h4:=Blk.set_ h3 4 v4;simp only[ag]at h4;have h5:=Blk.set_ h4 5 v5;simp only[ag]at h5;have h6:=Blk.set_ h5 6 v6;simp only[ag]at h6;have h7:=Blk.set_ h6 7 v7;simp only[ag]at h7;exact h7
theorem aEw{a w:World}{g:Nat}(h:aF a w)(hg:a.heap.size<=g)(v0 v1 v2 v3 v4 v5 v6 v7:Value):aF a ((((((((w.setCell ⟨g,0,none⟩ v0).setCell ⟨g,1,none⟩ v1).setCell ⟨g,2,none⟩ v2).setCell ⟨g,3,none⟩ v3).setCell ⟨g,4,none⟩ v4).setCell ⟨g,5,none⟩ v5).setCell ⟨g,6,none⟩ v6).setCell ⟨g,7,none⟩ v7) :=
 (((((((h.setCell (p:=⟨g,0,none⟩) hg v0).setCell (p:=⟨g,1,none⟩) hg v1).setCell (p:=⟨g,2,none⟩) hg v2).setCell (p:=⟨g,3,none⟩) hg v3).setCell (p:=⟨g,4,none⟩) hg v4).setCell (p:=⟨g,5,none⟩) hg v5).setCell (p:=⟨g,6,none⟩) hg v6).setCell (p:=⟨g,7,none⟩) hg v7
def DM(g0 g1 H:Nat)(fa ta ua fb tb ub:Int)(p:aC)(S1 S2 S3:Option Addr)(k1 s1 k2 s2 k3 s3:Nat)(l1 l2:List aC)(l3:List Int)(j:Nat)(v:Value)(w:World):Prop :=
 match j with
 | 0=>v=.pointer (some ⟨g0,0,none⟩)
 | 1=>v=.int .i64 fa
 | 2=>v=.pointer (some ⟨g1,0,none⟩)
 | 3=>v=.int .i64 fb
 | 4=>v=.int .i64 (max fa fb)
 | 5=>v=.pointer (some ⟨g0,1,none⟩)
 | 6=>v=.int .i64 ta
 | 7=>v=.pointer (some ⟨g1,1,none⟩)
 | 8=>v=.int .i64 tb
 | 9=>v=.int .i64 (min ta tb)
 | 10=>v=.string p
 | 11=>∃ b,v=.slice (some b) 0 0
 | 12=>v=.slice S1 k1 s1
 | 13=>∃ A c,v=.slice A k1 c/\aI w 1 A k1 (l1.map .string)/\wI w A k1 9
 | 14=>∃ b,v=.slice (some b) 0 0
 | 15=>v=.slice S2 k2 s2
 | 16=>∃ A c,v=.slice A k2 c/\aI w 1 A k2 (l2.map .string)/\wI w A k2 9
 | 17=>∃ b,v=.slice (some b) 0 0
 | 18=>v=.slice S3 k3 s3
 | 19=>∃ A c,v=.slice A k3 c/\aI w 1 A k3 (l3.map (.int .i64))/\wI w A k3 3
 | 20=>v=.pointer (some ⟨g0,6,none⟩)
 | 21=>v=.int .i64 ua
 | 22=>v=.pointer (some ⟨g1,6,none⟩)
 | 23=>v=.int .i64 ub
 | 24=>v=.int .i64 (fF ua ub)
 | 25=>∃ A1 c1 A2 c2 A3 c3,v=.agg #[.int .i64 (max fa fb),.int .i64 (min ta tb),.string p,.slice A1 k1 c1,.slice A2 k2 c2,.slice A3 k3 c3,.int .i64 (fF ua ub)]/\aI w 1 A1 k1 (l1.map .string)/\aI w 1 A2 k2 (l2.map .string)/\aI w 1 A3 k3 (l3.map (.int .i64))/\wI w A1 k1 9/\wI w A2 k2 9/\wI w A3 k3 3
 | 26=>∃ g,v=.pointer (some ⟨g,0,none⟩)/\H<=g/\aX w g 0 0 ⟨#[]⟩ none 0 0 none 0 0 none 0 0 0
 | _=>True
theorem DM.keep{g0 g1 H:Nat}{fa ta ua fb tb ub:Int}{p:aC}{S1 S2 S3:Option Addr}{k1 s1 k2 s2 k3 s3:Nat}{l1 l2:List aC}{l3:List Int}(j:Nat)(v:Value)(w w':World)(h:DM g0 g1 H fa ta ua fb tb ub p S1 S2 S3 k1 s1 k2 s2 k3 s3 l1 l2 l3 j v w)(hb:aF w w'):DM g0 g1 H fa ta ua fb tb ub p S1 S2 S3 k1 s1 k2 s2 k3 s3 l1 l2 l3 j v w':=by
 unfold DM at h;split at h;all_goals first
  | exact h
  | (obtain⟨A,c,e,hR,hT⟩:=h;exact⟨A,c,e,hR.keep hb,hT.keep hb⟩)
  | (obtain⟨A1,c1,A2,c2,A3,c3,e,r1,r2,r3,u1,u2,u3⟩:=h;exact⟨A1,c1,A2,c2,A3,c3,e,r1.keep hb,r2.keep hb,r3.keep hb,u1.keep hb,u2.keep hb,u3.keep hb⟩)
  | (obtain⟨g,e,hg,hx⟩:=h;exact⟨g,e,hg,Blk.keep hx hb⟩)
  | (unfold DM;split <;> first | trivial | (exfalso;simp_all;done))
theorem aEx{α:Type} [DecidableEq α] (a b:List α):(eP a b).length<=max a.length b.length:=by
 unfold eP;refine Nat.le_trans (List.length_filter_le _ _) ?_;split <;> omega
theorem wI.but{w w':World}{A:Option Addr}{n g:Nat}{t t':TypeId}{cs:Array Value}{fr:Nat × Nat}(h:wI w A n t)(hb:But g w w')(hB:Blk w g t' cs fr)(ht:t≠t'):wI w' A n t:=fun h0 =>
 let ⟨b,o,cs',fr',e,hx⟩:=h h0
 ⟨b,o,cs',fr',e,hb.blk hx (h.off hB ht h0 _ e)⟩
theorem aCe{w:World}{g:Nat}{v0 v1 v2 v3 v4 v5 v6 v7:Value}:But g w ((((((((w.setCell ⟨g,0,none⟩ v0).setCell ⟨g,1,none⟩ v1).setCell ⟨g,2,none⟩ v2).setCell ⟨g,3,none⟩ v3).setCell ⟨g,4,none⟩ v4).setCell ⟨g,5,none⟩ v5).setCell ⟨g,6,none⟩ v6).setCell ⟨g,7,none⟩ v7) :=
 (((((((But.set w g 0 _).step 1 _).step 2 _).step 3 _).step 4 _).step 5 _).step 6 _).step 7 _
def aMx(X:aY)(f:Int)(w:World)(e:Ending)(w':World):Prop:=aF w w'/\∃ n:ae,e=.returned (.agg #[.int .i64 X.fr,.int .i64 X.till,.string X.pat,.slice n.A X.cl.length n.ca,.slice n.B X.co.length n.cb,.slice n.S X.si.length n.cs,.int .i64 X.us,.int .i64 f])/\dA w' X n/\wI w' n.A X.cl.length 9/\wI w' n.B X.co.length 9/\wI w' n.S X.si.length 3
theorem aMy(a b:aY)(m1 m2:ae)(w:World)(hRa:dA w a m1)(hRb:dA w b m2)(hfa:dE a)(hfb:dE b) :
  Calls prog 55 #[ae.val a m1,ae.val b m2] w (aMx (if bF a&&bF b then iH a b else ed) (if bF a&&bF b then 0 else 1) w):=by
 have c1:=fun W (hb:aF w W)=>aCi a m1 W (hRa.keep hb) hfa.p hfa.cl hfa.co hfa.n1 hfa.n2 hfa.n3
 have c2:=fun W (hb:aF w W)=>aCi b m2 W (hRb.keep hb) hfb.p hfb.cl hfb.co hfb.n1 hfb.n2 hfb.n3
 have c3:=fun W=>aMu a.pat b.pat W hfa.p hfb.p
 have c4:=fun W (hb:aF w W)=>aId m1.A a.cl.length m1.ca m2.A b.cl.length m2.ca a.cl b.cl W (hRa.cl.keep hb) (hRb.cl.keep hb) hfa.n1 hfb.n1
 have c5:=fun W (hb:aF w W)=>aId m1.B a.co.length m1.cb m2.B b.co.length m2.cb a.co b.co W (hRa.co.keep hb) (hRb.co.keep hb) hfa.n2 hfb.n2
 have c6:=fun W (hb:aF w W)=>aMv m1.S a.si.length m1.cs m2.S b.si.length m2.cs a.si b.si W (hRa.si.keep hb) (hRb.si.keep hb) hfa.n3 hfb.n3
 have c7:=fun (h1:0<=a.us) (h2:0<=b.us) W=>aMt a.us b.us W h1 h2
 unfold aEs at c4 c5;unfold aEt at c6;have hn1:(eP a.cl b.cl).length<=1000000:=by have:=aEx a.cl b.cl;have:=hfa.n1;have:=hfb.n1;omega
 have hn2:(eP a.co b.co).length<=1000000:=by have:=aEx a.co b.co;have:=hfa.n2;have:=hfb.n2;omega
 have hn3:(eP a.si b.si).length<=1000000:=by have:=aEx a.si b.si;have:=hfa.n3;have:=hfb.n3;omega
 have hok:bF a=true->bF b=true->(aBl a.pat b.pat).2=qf a.pat b.pat/\(aBl a.pat b.pat).1=nV a.pat b.pat:=fun h1 h2=>aMw ((mP a).1 h1).pat ((mP b).1 h2).pat
 have hua:bF a=true->0<=a.us:=fun h=>((mP a).1 h).us0
 have hub:bF b=true->0<=b.us:=fun h=>((mP b).1 h).us0
 have hme:=Jq a b;unfold CX at hme;obtain⟨X,hX0⟩:∃ X,X=(if bF a&&bF b then iH a b else ed):=⟨_,rfl⟩;obtain⟨ER,hER⟩:∃ x:Int,x=(if bF a&&bF b then 0 else 1):=⟨_,rfl⟩;rw[<-hX0,<-hER];rw[hme]at hX0;clear hme;generalize bF a=va at *;generalize bF b=vb at *;generalize eP a.cl b.cl=F1 at *;generalize eP a.co b.co=F2 at *;generalize eP a.si b.si=F3 at *;generalize gW a.cl b.cl=o1 at *;generalize gW a.co b.co=o2 at *;generalize gW a.si b.si=o3 at *;generalize qf a.pat b.pat=pk at *;generalize nV a.pat b.pat=pm at *;generalize aBl a.pat b.pat=pr at *;obtain⟨pS,pB⟩:=pr;obtain⟨fa,ta,pa,cla,coa,sia,ua⟩:=a;obtain⟨fb,tb,pb,clb,cob,sib,ub⟩:=b;obtain⟨A,ca,B,cb,S,cs⟩:=m1;obtain⟨A',ca',B',cb',S',cs'⟩:=m2;unfold ae.val at c1 c2 ⊢;dsimp only at c1 c2 c3 c4 c5 c6 c7 hok hua hub hX0 ⊢;generalize cla.length=na at *;generalize coa.length=nb at *;generalize sia.length=ns at *;generalize clb.length=ma at *;generalize cob.length=mb at *;generalize sib.length=ms at *;obtain⟨k1,hk1⟩:∃ k,k=F1.length:=⟨_,rfl⟩;obtain⟨k2,hk2⟩:∃ k,k=F2.length:=⟨_,rfl⟩;obtain⟨k3,hk3⟩:∃ k,k=F3.length:=⟨_,rfl⟩;rw[<-hk1]at c4 hn1;rw[<-hk2]at c5 hn2;rw[<-hk3]at c6 hn3;have C1:=aA c1;have C2:=aA c2;have C3:=aA c3;have C4:=aA c4;have C5:=aA c5;have C6:=aA c6;have C7:=aA c7;have HOK:=aA hok;have HUA:=aA hua;have HUB:=aA hub;have HX:=aA hX0;have HER:=aA hER;have HN:=aA (And.intro hn1 (And.intro hn2 hn3));have HK:=aA (And.intro hk1 (And.intro hk2 hk3));clear c1 c2 c3 c4 c5 c6 c7 hok hua hub hX0 hER hn1 hn2 hn3 hk1 hk2 hk3 hRa hRb hfa hfb;go_enter func55,ntmps55;go_upto_region 1 with fail
 obtain⟨W0,hW0⟩:∃ W0,W0=((w.alloc (.cells #[.int .i64 fa,.int .i64 ta,.string pa,.slice A na ca,.slice B nb cb,.slice S ns cs,.int .i64 ua] 27)).alloc (.cells #[.int .i64 fb,.int .i64 tb,.string pb,.slice A' ma ca',.slice B' mb cb',.slice S' ms cs',.int .i64 ub] 27)).alloc (.cells #[.int .i64 0,.int .i64 0,.string ⟨#[]⟩,.slice none 0 0,.slice none 0 0,.slice none 0 0,.int .i64 0,.int .i64 0] 90):=⟨_,rfl⟩;have hbw:aF w W0:=by rw[hW0];exact aU (aU (aU (Below.refl _ _) _) _) _
 have hX:aX W0 w.heap.size fa ta pa A na ca B nb cb S ns cs ua:=by rw[hW0];exact (aEu _ _ _ _).1
 have hY:aX W0 (w.heap.size+1) fb tb pb A' ma ca' B' mb cb' S' ms cs' ub:=by rw[hW0];exact (aEu _ _ _ _).2.1
 have hM:Blk W0 (w.heap.size+1+1) 90 #[.int .i64 0,.int .i64 0,.string ⟨#[]⟩,.slice none 0 0,.slice none 0 0,.slice none 0 0,.int .i64 0,.int .i64 0] (0,0):=by rw[hW0];exact (aEu _ _ _ _).2.2
 rw[<-hW0];clear hW0;(obtain⟨x0,x1,x2,x3,x4,x5,x6⟩:=aX.facts hX;obtain⟨y0,y1,y2,y3,y4,y5,y6⟩:=aX.facts hY);go_cut [21] (fun v wx=>v=.bool (!(va&&vb))/\aX wx w.heap.size fa ta pa A na ca B nb cb S ns cs ua/\aX wx (w.heap.size+1) fb tb pb A' ma ca' B' mb cb' S' ms cs' ub/\(Blk wx (w.heap.size+1+1) 90 #[.int .i64 0,.int .i64 0,.string ⟨#[]⟩,.slice none 0 0,.slice none 0 0,.slice none 0 0,.int .i64 0,.int .i64 0] (0,0))/\aF w wx)
 case first =>
  clear C3 C4 C5 C6 C7 HX HER;cases va
  ·clear C2;go_wp2_with (go_at_call 32;refine (C1.out _ aJ).mono ?_;rintro e w2 ⟨rfl,hb2⟩;have hX2:=Blk.keep hX hb2;have hY2:=Blk.keep hY hb2;have hM2:=Blk.keep hM hb2;have hbw2:=aV hbw hb2;obtain⟨p0,p1,p2,p3,p4,p5,p6⟩:=aX.facts hX2;obtain⟨q0,q1,q2,q3,q4,q5,q6⟩:=aX.facts hY2;clear C1);all_goals (go_meet;exact⟨rfl,hX2,hY2,hM2,hbw2⟩)
  ·go_wp2_with (first | (go_at_call 32;refine (C1.out _ aJ).mono ?_;rintro e w2 ⟨rfl,hb2⟩;have hX2:=Blk.keep hX hb2;have hY2:=Blk.keep hY hb2;have hM2:=Blk.keep hM hb2;have hbw2:=aV hbw hb2;obtain⟨p0,p1,p2,p3,p4,p5,p6⟩:=aX.facts hX2;obtain⟨q0,q1,q2,q3,q4,q5,q6⟩:=aX.facts hY2;clear C1) | (go_at_call 32;refine (C2.out _ aJ).mono ?_;rintro e w3 ⟨rfl,hb3⟩));all_goals (go_meet;exact⟨by cases vb <;> rfl,Blk.keep hX2 hb3,Blk.keep hY2 hb3,Blk.keep hM2 hb3,aV hbw2 hb3⟩)
 case rest =>
  clear x0 x1 x2 x3 x4 x5 x6 y0 y1 y2 y3 y4 y5 y6;clear hX hY hM hbw C1 C2;obtain⟨rfl,hX,hY,hM,hbw⟩:=hcut;(obtain⟨x0,x1,x2,x3,x4,x5,x6⟩:=aX.facts hX;obtain⟨y0,y1,y2,y3,y4,y5,y6⟩:=aX.facts hY);cases hvv:(va&&vb)
  ·obtain rfl:X=ed:=by rw[HX.out,hvv];rfl
   obtain rfl:ER=1:=by rw[HER.out,hvv];rfl
   clear HX HER;(have m0:=Blk.cell hM 0;have m1:=Blk.cell hM 1;have m2:=Blk.cell hM 2;have m3:=Blk.cell hM 3;have m4:=Blk.cell hM 4;have m5:=Blk.cell hM 5;have m6:=Blk.cell hM 6;have m7:=Blk.cell hM 7;have f0:=Blk.free0 hM 0;have f1:=Blk.free0 hM 1;have f2:=Blk.free0 hM 2;have f3:=Blk.free0 hM 3;have f4:=Blk.free0 hM 4;have f5:=Blk.free0 hM 5;have f6:=Blk.free0 hM 6;have f7:=Blk.free0 hM 7;have hzM:=Blk.lt hM;simp only[List.getElem?_toArray,List.getElem?_cons_zero,List.getElem?_cons_succ]at m0 m1 m2 m3 m4 m5 m6 m7);go_wp2;(have hP:=aEv hM (.int .i64 0) (.int .i64 0) (.string ⟨#[]⟩) (.slice none 0 0) (.slice none 0 0) (.slice none 0 0) (.int .i64 0) (.int .i64 1);have r0:=Blk.cell hP 0;have r1:=Blk.cell hP 1;have r2:=Blk.cell hP 2;have r3:=Blk.cell hP 3;have r4:=Blk.cell hP 4;have r5:=Blk.cell hP 5;have r6:=Blk.cell hP 6;have r7:=Blk.cell hP 7;simp only[List.getElem?_toArray,List.getElem?_cons_zero,List.getElem?_cons_succ]at r0 r1 r2 r3 r4 r5 r6 r7;(clear m0 m1 m2 m3 m4 m5 m6 m7 f0 f1 f2 f3 f4 f5 f6 f7);clear x0 x1 x2 x3 x4 x5 x6 y0 y1 y2 y3 y4 y5 y6);exact bodyPost_ret (v:=.agg #[.int .i64 0,.int .i64 0,.string ⟨#[]⟩,.slice none 0 0,.slice none 0 0,.slice none 0 0,.int .i64 0,.int .i64 1]) aEy rfl ⟨aEw hbw aB _ _ _ _ _ _ _ _,⟨none,0,none,0,none,0⟩,rfl,⟨aI.nil_ _ _ _,aI.nil_ _ _ _,aI.nil_ _ _ _⟩,fun h=>absurd h (Nat.lt_irrefl 0),fun h=>absurd h (Nat.lt_irrefl 0),fun h=>absurd h (Nat.lt_irrefl 0)⟩
  obtain rfl:ER=0:=by rw[HER.out,hvv];rfl
  have hx:=HX.out;rw[hvv,if_pos rfl]at hx;rw[Bool.and_eq_true]at hvv;obtain⟨rfl,rfl⟩:=hvv;obtain⟨e1,e2⟩:=HOK.out rfl rfl;have c7:=C7.out (HUA.out rfl) (HUB.out rfl);try dsimp only at e1 e2
  subst e1;subst e2;clear HX HER HOK HUA HUB C7;have HX:=aA hx;have C7:=aA c7;clear hx c7;go_upto_region 7 with (first | ((first | (go_at_call 113;refine (C3.out _).mono ?_;rintro e w2 ⟨rfl,hb2⟩) | (go_at_call 114;(with_reducible refine (C4.out _ hbw).mono ?_);rintro e w3 ⟨hb2,S1,s1,rfl,hr1⟩));(replace hX:=Blk.keep hX hb2;replace hY:=Blk.keep hY hb2;replace hM:=Blk.keep hM hb2;replace hbw:=aV hbw hb2;clear x0 x1 x2 x3 x4 x5 x6 y0 y1 y2 y3 y4 y5 y6;(obtain⟨x0,x1,x2,x3,x4,x5,x6⟩:=aX.facts hX;obtain⟨y0,y1,y2,y3,y4,y5,y6⟩:=aX.facts hY))) | (go_at_call 114;(with_reducible refine (C5.out _ hbw).mono ?_);rintro e w4 ⟨hb2,S2,s2,rfl,hr2⟩;(replace hX:=Blk.keep hX hb2;replace hY:=Blk.keep hY hb2;replace hM:=Blk.keep hM hb2;replace hbw:=aV hbw hb2;clear x0 x1 x2 x3 x4 x5 x6 y0 y1 y2 y3 y4 y5 y6;(obtain⟨x0,x1,x2,x3,x4,x5,x6⟩:=aX.facts hX;obtain⟨y0,y1,y2,y3,y4,y5,y6⟩:=aX.facts hY));replace hr1:=aI.keep hr1 hb2) | (go_at_call 115;refine (C6.out _ hbw).mono ?_;rintro e w5 ⟨hb2,S3,s3,rfl,hr3⟩;(replace hX:=Blk.keep hX hb2;replace hY:=Blk.keep hY hb2;replace hM:=Blk.keep hM hb2;replace hbw:=aV hbw hb2;clear x0 x1 x2 x3 x4 x5 x6 y0 y1 y2 y3 y4 y5 y6;(obtain⟨x0,x1,x2,x3,x4,x5,x6⟩:=aX.facts hX;obtain⟨y0,y1,y2,y3,y4,y5,y6⟩:=aX.facts hY));replace hr1:=aI.keep hr1 hb2;replace hr2:=aI.keep hr2 hb2))
  obtain⟨IS,IS_1,IS_2,IS_3,IS_4⟩:=info_parts rY;obtain⟨II,II_1,II_2,II_3,II_4⟩:=info_parts aHx;go_cut [13] (fun v wx=>∃ g,v=.pointer (some ⟨g,0,none⟩)/\w.heap.size+1+1<g/\(∃ A1 c1 A2 c2 A3 c3,aX wx g (max fa fb) (min ta tb) pS A1 k1 c1 A2 k2 c2 A3 k3 c3 (fF ua ub)/\aI wx 1 A1 k1 (F1.map .string)/\aI wx 1 A2 k2 (F2.map .string)/\aI wx 1 A3 k3 (F3.map (.int .i64))/\wI wx A1 k1 9/\wI wx A2 k2 9/\wI wx A3 k3 3)/\(Blk wx (w.heap.size+1+1) 90 #[.int .i64 0,.int .i64 0,.string ⟨#[]⟩,.slice none 0 0,.slice none 0 0,.slice none 0 0,.int .i64 0,.int .i64 0] (0,0))/\aF w wx)
  case first =>
   clear HX HK x0 x1 x2 x3 x4 x5 x6 y0 y1 y2 y3 y4 y5 y6;refine qI 27 aG aG (fun a b=>aF a b) (fun a=>Below.refl _ _) (fun a b c h k=>h.trans (k.mono h.size)) (DM w.heap.size (w.heap.size+1) (w.heap.size+1+1+1) fa ta ua fb tb ub pS S1 S2 S3 k1 s1 k2 s2 k3 s3 F1 F2 F3) DM.keep (fun _ _=>True) trivial ?_ ?_
   ·skip;refine dL ?_ (dL ?_ (dL ?_ (dL ?_ (dL ?_ (dL ?_ (dL ?_ (dL ?_ (dL ?_ (dL ?_ (dL ?_ (dL ?_ (dL ?_ (dL ?_ (dL ?_ (dL ?_ (dL ?_ (dL ?_ (dL ?_ (dL ?_ (dL ?_ (dL ?_ (dL ?_ (dL ?_ (dL ?_ (dL ?_ (dL ?_ (uu)))))))))))))))))))))))))))
    ·exact aEz
    ·intro ho L a W hC hi hl hJ hG hA hd;have t55:a.eval (.tmp 55)=.pointer (some ⟨w.heap.size,0,none⟩):=gZ;have u55:=(dM a 55).trans t55;obtain⟨x0,x1,x2,x3,x4,x5,x6⟩:=aX.facts (Blk.keep (Blk.keep hX (Below.drew (Below.refl _ _))) hG);exact kR (W':=W) ho rfl (by simp[go_sem,execOp,u55,x0]) ⟨rfl,Below.refl _ _,trivial⟩
    ·exact aFb
    ·intro ho L a W hC hi hl hJ hG hA hd;have t57:a.eval (.tmp 57)=.pointer (some ⟨w.heap.size+1,0,none⟩):=gZ;have u57:=(dM a 57).trans t57;obtain⟨y0,y1,y2,y3,y4,y5,y6⟩:=aX.facts (Blk.keep (Blk.keep hY (Below.drew (Below.refl _ _))) hG);exact kR (W':=W) ho rfl (by simp[go_sem,execOp,u57,y0]) ⟨rfl,Below.refl _ _,trivial⟩
    ·intro ho L a W hC hi hl hJ hG hA hd;have t56:a.eval (.tmp 56)=.int .i64 fa:=gZ;have u56:=(dM a 56).trans t56;have t58:a.eval (.tmp 58)=.int .i64 fb:=qV;have u58:=(dM a 58).trans t58;exact kR (W':=W) ho rfl (by simp[go_sem,execOp,u56,u58]) ⟨rfl,Below.refl _ _,trivial⟩
    ·exact aEz
    ·intro ho L a W hC hi hl hJ hG hA hd;have t60:a.eval (.tmp 60)=.pointer (some ⟨w.heap.size,1,none⟩):=gZ;have u60:=(dM a 60).trans t60;obtain⟨x0,x1,x2,x3,x4,x5,x6⟩:=aX.facts (Blk.keep (Blk.keep hX (Below.drew (Below.refl _ _))) hG);exact kR (W':=W) ho rfl (by simp[go_sem,execOp,u60,x1]) ⟨rfl,Below.refl _ _,trivial⟩
    ·exact aFb
    ·intro ho L a W hC hi hl hJ hG hA hd;have t62:a.eval (.tmp 62)=.pointer (some ⟨w.heap.size+1,1,none⟩):=gZ;have u62:=(dM a 62).trans t62;obtain⟨y0,y1,y2,y3,y4,y5,y6⟩:=aX.facts (Blk.keep (Blk.keep hY (Below.drew (Below.refl _ _))) hG);exact kR (W':=W) ho rfl (by simp[go_sem,execOp,u62,y1]) ⟨rfl,Below.refl _ _,trivial⟩
    ·intro ho L a W hC hi hl hJ hG hA hd;have t61:a.eval (.tmp 61)=.int .i64 ta:=gZ;have u61:=(dM a 61).trans t61;have t63:a.eval (.tmp 63)=.int .i64 tb:=qV;have u63:=(dM a 63).trans t63;exact kR (W':=W) ho rfl (by simp[go_sem,execOp,u61,u63]) ⟨rfl,Below.refl _ _,trivial⟩
    ·intro ho L a W hC hi hl hJ hG hA hd;have t5:a.eval (.tmp 5)=.string pS:=pF hA aG;have u5:=(dM a 5).trans t5;exact kR (W':=W) ho rfl (by simp[go_sem,execOp,u5]) ⟨rfl,Below.refl _ _,trivial⟩
    ·exact aIh
    ·intro ho L a W hC hi hl hJ hG hA hd;have t7:a.eval (.tmp 7)=.slice S1 k1 s1:=pF hA aG;have u7:=(dM a 7).trans t7;exact kR (W':=W) ho rfl (by simp[go_sem,execOp,u7]) ⟨rfl,Below.refl _ _,trivial⟩
    ·intro ho L a W hC hi hl hJ hG hA hd;obtain⟨b,t66⟩:∃ b,a.eval (.tmp 66)=.slice (some b) 0 0:=gZ;have u66:=(dM a 66).trans t66;have t67:a.eval (.tmp 67)=.slice S1 k1 s1:=qV;have u67:=(dM a 67).trans t67;refine aDu (t:=24) (e:=9) (bytes:=16) (.tmp 66) (.tmp 67) ho rfl rfl underlying24 IS_1 IS_2 IS_3 (Nat.le_of_eq IS_4) aK rfl t66 t67 (aI.keep (aI.keep hr1 (Below.drew (Below.refl _ _))) hG) HN.out.1 ?_;exact aFd
    ·exact aIh
    ·intro ho L a W hC hi hl hJ hG hA hd;have t9:a.eval (.tmp 9)=.slice S2 k2 s2:=pF hA aG;have u9:=(dM a 9).trans t9;exact kR (W':=W) ho rfl (by simp[go_sem,execOp,u9]) ⟨rfl,Below.refl _ _,trivial⟩
    ·intro ho L a W hC hi hl hJ hG hA hd;obtain⟨b,t69⟩:∃ b,a.eval (.tmp 69)=.slice (some b) 0 0:=gZ;have u69:=(dM a 69).trans t69;have t70:a.eval (.tmp 70)=.slice S2 k2 s2:=qV;have u70:=(dM a 70).trans t70;refine aDu (t:=24) (e:=9) (bytes:=16) (.tmp 69) (.tmp 70) ho rfl rfl underlying24 IS_1 IS_2 IS_3 (Nat.le_of_eq IS_4) aK rfl t69 t70 (aI.keep (aI.keep hr2 (Below.drew (Below.refl _ _))) hG) HN.out.2.1 ?_;exact aFd
    ·intro ho L a W hC hi hl hJ hG hA hd;exact kR (v:=.slice (some ⟨W.heap.size,0,none⟩) 0 0) (W':=W.alloc (.cells #[] 3)) ho rfl aFe ⟨⟨_,rfl⟩,aU (Below.refl _ _) _,trivial⟩
    ·intro ho L a W hC hi hl hJ hG hA hd;have t11:a.eval (.tmp 11)=.slice S3 k3 s3:=pF hA aG;have u11:=(dM a 11).trans t11;exact kR (W':=W) ho rfl (by simp[go_sem,execOp,u11]) ⟨rfl,Below.refl _ _,trivial⟩
    ·intro ho L a W hC hi hl hJ hG hA hd;obtain⟨b,t72⟩:∃ b,a.eval (.tmp 72)=.slice (some b) 0 0:=gZ;have u72:=(dM a 72).trans t72;have t73:a.eval (.tmp 73)=.slice S3 k3 s3:=qV;have u73:=(dM a 73).trans t73;refine aDu (t:=25) (e:=3) (bytes:=8) (.tmp 72) (.tmp 73) ho rfl rfl underlying25 II_1 II_2 II_3 (Nat.le_of_eq II_4) aK rfl t72 t73 (aI.keep (aI.keep hr3 (Below.drew (Below.refl _ _))) hG) HN.out.2.2 ?_;exact aFd
    ·exact aEz
    ·intro ho L a W hC hi hl hJ hG hA hd;have t75:a.eval (.tmp 75)=.pointer (some ⟨w.heap.size,6,none⟩):=gZ;have u75:=(dM a 75).trans t75;obtain⟨x0,x1,x2,x3,x4,x5,x6⟩:=aX.facts (Blk.keep (Blk.keep hX (Below.drew (Below.refl _ _))) hG);exact kR (W':=W) ho rfl (by simp[go_sem,execOp,u75,x6]) ⟨rfl,Below.refl _ _,trivial⟩
    ·exact aFb
    ·intro ho L a W hC hi hl hJ hG hA hd;have t77:a.eval (.tmp 77)=.pointer (some ⟨w.heap.size+1,6,none⟩):=gZ;have u77:=(dM a 77).trans t77;obtain⟨y0,y1,y2,y3,y4,y5,y6⟩:=aX.facts (Blk.keep (Blk.keep hY (Below.drew (Below.refl _ _))) hG);exact kR (W':=W) ho rfl (by simp[go_sem,execOp,u77,y6]) ⟨rfl,Below.refl _ _,trivial⟩
    ·intro ho L a W hC hi hl hJ hG hA hd;have t76:a.eval (.tmp 76)=.int .i64 ua:=gZ;have u76:=(dM a 76).trans t76;have t78:a.eval (.tmp 78)=.int .i64 ub:=qV;have u78:=(dM a 78).trans t78;refine lM (f:=116) (args:=#[.int .i64 ua,.int .i64 ub]) ho rfl (by simp[go_sem,execOp,u76,u78]) ?_;refine (C7.out _).mono ?_;rintro e W' ⟨rfl,hb'⟩;exact⟨_,rfl,rfl,hb',trivial⟩
    ·intro ho L a W hC hi hl hJ hG hA hd;have t59:a.eval (.tmp 59)=.int .i64 (max fa fb):=gZ;have u59:=(dM a 59).trans t59;have t64:a.eval (.tmp 64)=.int .i64 (min ta tb):=qV;have u64:=(dM a 64).trans t64;have t65:a.eval (.tmp 65)=.string pS:=by have:=hd _ (Array.mem_of_getElem? (i:=2) rfl) rfl;exact this
     have u65:=(dM a 65).trans t65;obtain⟨A1,c1,t68,x68_0,x68_1⟩:∃ A1 c1,a.eval (.tmp 68)=.slice A1 k1 c1/\aI W 1 A1 k1 (F1.map .string)/\wI W A1 k1 9:=by have:=hd _ (Array.mem_of_getElem? (i:=3) rfl) rfl;exact this
     have u68:=(dM a 68).trans t68;obtain⟨A2,c2,t71,x71_0,x71_1⟩:∃ A2 c2,a.eval (.tmp 71)=.slice A2 k2 c2/\aI W 1 A2 k2 (F2.map .string)/\wI W A2 k2 9:=by have:=hd _ (Array.mem_of_getElem? (i:=4) rfl) rfl;exact this
     have u71:=(dM a 71).trans t71;obtain⟨A3,c3,t74,x74_0,x74_1⟩:∃ A3 c3,a.eval (.tmp 74)=.slice A3 k3 c3/\aI W 1 A3 k3 (F3.map (.int .i64))/\wI W A3 k3 3:=by have:=hd _ (Array.mem_of_getElem? (i:=5) rfl) rfl;exact this
     have u74:=(dM a 74).trans t74;have t79:a.eval (.tmp 79)=.int .i64 (fF ua ub):=by have:=hd _ (Array.mem_of_getElem? (i:=6) rfl) rfl;exact this
     have u79:=(dM a 79).trans t79;exact kR (v:=.agg #[.int .i64 (max fa fb),.int .i64 (min ta tb),.string pS,.slice A1 k1 c1,.slice A2 k2 c2,.slice A3 k3 c3,.int .i64 (fF ua ub)]) (W':=W) ho rfl (by simp[go_sem,execOp,u59,u64,u65,u68,u71,u74,u79]) ⟨⟨A1,c1,A2,c2,A3,c3,rfl,x68_0,x71_0,x74_0,x68_1,x71_1,x74_1⟩,Below.refl _ _,trivial⟩
    ·intro ho L a W hC hi hl hJ hG hA hd;have hlt:=Blk.lt (Blk.keep (Blk.keep hM (Below.drew (Below.refl _ _))) hG);exact kR (v:=.pointer (some ⟨W.heap.size,0,none⟩)) (W':=W.alloc (.cells fU 27)) ho rfl aFe ⟨⟨W.heap.size,rfl,hlt,World.alloc_heap_new _ _⟩,aU (Below.refl _ _) _,trivial⟩
   ·intro vals w' hG _ hD;obtain⟨A1,c1,A2,c2,A3,c3,e25,q1,q2,q3,u1,u2,u3⟩:∃ A1 c1 A2 c2 A3 c3,vals 25=.agg #[.int .i64 (max fa fb),.int .i64 (min ta tb),.string pS,.slice A1 k1 c1,.slice A2 k2 c2,.slice A3 k3 c3,.int .i64 (fF ua ub)]/\aI w' 1 A1 k1 (F1.map .string)/\aI w' 1 A2 k2 (F2.map .string)/\aI w' 1 A3 k3 (F3.map (.int .i64))/\wI w' A1 k1 9/\wI w' A2 k2 9/\wI w' A3 k3 3:=hD 25 aB;obtain⟨g,e26,hg,hbox⟩:∃ g,vals 26=.pointer (some ⟨g,0,none⟩)/\w.heap.size+1+1+1<=g/\aX w' g 0 0 ⟨#[]⟩ none 0 0 none 0 0 none 0 0 0:=hD 26 aB;have hM':=Blk.keep (Blk.keep hM (Below.drew (Below.refl _ _))) hG;have hbw':=aV (aV hbw (Below.drew (Below.refl _ _))) hG;dsimp only[List.drop,List.take,aZ];rw[e25,e26];obtain⟨x0,x1,x2,x3,x4,x5,x6⟩:=aX.facts hbox;have z0:=Blk.free0 hbox 0;have z1:=Blk.free0 hbox 1;have z2:=Blk.free0 hbox 2;have z3:=Blk.free0 hbox 3;have z4:=Blk.free0 hbox 4;have z5:=Blk.free0 hbox 5;have z6:=Blk.free0 hbox 6;go_wp2;go_meet;have hb7:=DD (w:=w') (g:=g) (v0:=.int .i64 (max fa fb)) (v1:=.int .i64 (min ta tb)) (v2:=.string pS) (v3:=.slice A1 k1 c1) (v4:=.slice A2 k2 c2) (v5:=.slice A3 k3 c3) (v6:=.int .i64 (fF ua ub));exact⟨g,rfl,aB,⟨A1,c1,A2,c2,A3,c3,aX.put hbox _ _ _ _ _ _ _ _ _ _ _ _ _,hb7.reads q1 (u1.off hbox aK),hb7.reads q2 (u2.off hbox aK),hb7.reads q3 (u3.off hbox aK),u1.but hb7 hbox aK,u2.but hb7 hbox aK,u3.but hb7 hbox aK⟩,hb7.blk hM' aB,hbw'.trans (hb7.below aB hbw'.size)⟩
  case rest =>
   clear hX hY hM hbw;obtain⟨g,rfl,hg,⟨A1,c1,A2,c2,A3,c3,hB,q1,q2,q3,u1,u2,u3⟩,hM,hbw⟩:=hcut;clear x0 x1 x2 x3 x4 x5 x6 y0 y1 y2 y3 y4 y5 y6 hr1 hr2 hr3 hb2;obtain⟨x0,x1,x2,x3,x4,x5,x6⟩:=aX.facts hB;go_upto_region 8 with fail
   go_cut [101] (fun v wx=>v=.bool (!(decide (max fa fb<min ta tb)&&(o1&&o2&&o3&&pB)))/\aX wx g (max fa fb) (min ta tb) pS A1 k1 c1 A2 k2 c2 A3 k3 c3 (fF ua ub)/\aI wx 1 A1 k1 (F1.map .string)/\aI wx 1 A2 k2 (F2.map .string)/\aI wx 1 A3 k3 (F3.map (.int .i64))/\wI wx A1 k1 9/\wI wx A2 k2 9/\wI wx A3 k3 3/\(Blk wx (w.heap.size+1+1) 90 #[.int .i64 0,.int .i64 0,.string ⟨#[]⟩,.slice none 0 0,.slice none 0 0,.slice none 0 0,.int .i64 0,.int .i64 0] (0,0))/\aF w wx)
   case first =>
    clear HX HK;by_cases hlt:max fa fb<min ta tb
    ·have hlt2:¬ min ta tb<=max fa fb:=aB;cases pB <;> cases o1 <;> cases o2 <;> cases o3
     all_goals (go_wp2;go_meet;exact⟨by simp[hlt],hB,q1,q2,q3,u1,u2,u3,hM,hbw⟩)
    ·have hlt2:min ta tb<=max fa fb:=aB;go_wp2;all_goals (go_meet;exact⟨by simp[hlt],hB,q1,q2,q3,u1,u2,u3,hM,hbw⟩)
   case rest =>
    clear hM hbw hB q1 q2 q3 u1 u2 u3 x0 x1 x2 x3 x4 x5 x6;obtain⟨rfl,hB,q1,q2,q3,u1,u2,u3,hM,hbw⟩:=hcut;obtain⟨x0,x1,x2,x3,x4,x5,x6⟩:=aX.facts hB;cases hk:(decide (max fa fb<min ta tb)&&(o1&&o2&&o3&&pB))
    ·obtain rfl:X=ed:=by have hx:=HX.out;rw[hk]at hx;exact hx
     clear HX HK hk;(have m0:=Blk.cell hM 0;have m1:=Blk.cell hM 1;have m2:=Blk.cell hM 2;have m3:=Blk.cell hM 3;have m4:=Blk.cell hM 4;have m5:=Blk.cell hM 5;have m6:=Blk.cell hM 6;have m7:=Blk.cell hM 7;have f0:=Blk.free0 hM 0;have f1:=Blk.free0 hM 1;have f2:=Blk.free0 hM 2;have f3:=Blk.free0 hM 3;have f4:=Blk.free0 hM 4;have f5:=Blk.free0 hM 5;have f6:=Blk.free0 hM 6;have f7:=Blk.free0 hM 7;have hzM:=Blk.lt hM;simp only[List.getElem?_toArray,List.getElem?_cons_zero,List.getElem?_cons_succ]at m0 m1 m2 m3 m4 m5 m6 m7);go_wp2;clear x0 x1 x2 x3 x4 x5 x6;have hP:=aEv hM (.int .i64 0) (.int .i64 0) (.string ⟨#[]⟩) (.slice none 0 0) (.slice none 0 0) (.slice none 0 0) (.int .i64 0) (.int .i64 0);have r0:=Blk.cell hP 0;have r1:=Blk.cell hP 1;have r2:=Blk.cell hP 2;have r3:=Blk.cell hP 3;have r4:=Blk.cell hP 4;have r5:=Blk.cell hP 5;have r6:=Blk.cell hP 6;have r7:=Blk.cell hP 7;simp only[List.getElem?_toArray,List.getElem?_cons_zero,List.getElem?_cons_succ]at r0 r1 r2 r3 r4 r5 r6 r7;(clear m0 m1 m2 m3 m4 m5 m6 m7 f0 f1 f2 f3 f4 f5 f6 f7);exact bodyPost_ret (v:=.agg #[.int .i64 0,.int .i64 0,.string ⟨#[]⟩,.slice none 0 0,.slice none 0 0,.slice none 0 0,.int .i64 0,.int .i64 0]) aEy rfl ⟨aEw hbw aB _ _ _ _ _ _ _ _,⟨none,0,none,0,none,0⟩,rfl,⟨aI.nil_ _ _ _,aI.nil_ _ _ _,aI.nil_ _ _ _⟩,fun h=>absurd h (Nat.lt_irrefl 0),fun h=>absurd h (Nat.lt_irrefl 0),fun h=>absurd h (Nat.lt_irrefl 0)⟩
    ·obtain rfl:X=⟨max fa fb,min ta tb,pS,F1,F2,F3,fF ua ub⟩:=by have hx:=HX.out;rw[hk]at hx;exact hx
     clear HX hk;(have m0:=Blk.cell hM 0;have m1:=Blk.cell hM 1;have m2:=Blk.cell hM 2;have m3:=Blk.cell hM 3;have m4:=Blk.cell hM 4;have m5:=Blk.cell hM 5;have m6:=Blk.cell hM 6;have m7:=Blk.cell hM 7;have f0:=Blk.free0 hM 0;have f1:=Blk.free0 hM 1;have f2:=Blk.free0 hM 2;have f3:=Blk.free0 hM 3;have f4:=Blk.free0 hM 4;have f5:=Blk.free0 hM 5;have f6:=Blk.free0 hM 6;have f7:=Blk.free0 hM 7;have hzM:=Blk.lt hM;simp only[List.getElem?_toArray,List.getElem?_cons_zero,List.getElem?_cons_succ]at m0 m1 m2 m3 m4 m5 m6 m7);go_wp2;have hk1:=HK.out.1;have hk2:=HK.out.2.1;have hk3:=HK.out.2.2;clear x0 x1 x2 x3 x4 x5 x6;have hP:=aEv hM (.int .i64 (max fa fb)) (.int .i64 (min ta tb)) (.string pS) (.slice A1 k1 c1) (.slice A2 k2 c2) (.slice A3 k3 c3) (.int .i64 (fF ua ub)) (.int .i64 0);have r0:=Blk.cell hP 0;have r1:=Blk.cell hP 1;have r2:=Blk.cell hP 2;have r3:=Blk.cell hP 3;have r4:=Blk.cell hP 4;have r5:=Blk.cell hP 5;have r6:=Blk.cell hP 6;have r7:=Blk.cell hP 7;simp only[List.getElem?_toArray,List.getElem?_cons_zero,List.getElem?_cons_succ]at r0 r1 r2 r3 r4 r5 r6 r7;(clear m0 m1 m2 m3 m4 m5 m6 m7 f0 f1 f2 f3 f4 f5 f6 f7);refine bodyPost_ret (v:=.agg #[.int .i64 (max fa fb),.int .i64 (min ta tb),.string pS,.slice A1 k1 c1,.slice A2 k2 c2,.slice A3 k3 c3,.int .i64 (fF ua ub),.int .i64 0]) aEy rfl ⟨aEw hbw aB _ _ _ _ _ _ _ _,⟨A1,c1,A2,c2,A3,c3⟩,by rw[hk1,hk2,hk3],?_⟩;refine⟨⟨?_,?_,?_⟩,?_,?_,?_⟩
     ·show aI _ 1 A1 F1.length (F1.map .string);rw[<-hk1];exact aCe.reads q1 (u1.off hM aK)
     ·show aI _ 1 A2 F2.length (F2.map .string);rw[<-hk2];exact aCe.reads q2 (u2.off hM aK)
     ·show aI _ 1 A3 F3.length (F3.map (.int .i64));rw[<-hk3];exact aCe.reads q3 (u3.off hM aK)
     ·show wI _ A1 F1.length _;rw[<-hk1];exact u1.but aCe hM aK
     ·show wI _ A2 F2.length _;rw[<-hk2];exact u2.but aCe hM aK
     ·show wI _ A3 F3.length _;rw[<-hk3];exact u3.but aCe hM aK
end Go.Proofs.YtlkbkclnbppigaaGreatDoor
