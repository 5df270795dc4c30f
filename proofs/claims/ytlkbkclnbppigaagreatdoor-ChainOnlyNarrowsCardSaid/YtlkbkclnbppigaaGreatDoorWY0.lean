/- The parts of a pattern: what has, covers, with, without, String, meet and partOf return. -/
import Derived.Test.YtlkbkclnbppigaaGreatDoorIZ20
import Derived.Test.YtlkbkclnbppigaaGreatDoorWHost
set_option maxHeartbeats 4000000
namespace Go.Proofs.YtlkbkclnbppigaaGreatDoor
open Tryz
open Go.RowKit Go.Sort
set_option linter.unusedVariables false
set_option linter.unusedSimpArgs false
theorem aCn(k:Nat)(t b:aC)(w:World)(hs:b.size<=4294967281)(ht:t.size<=4294967281)(hk:k<=2) :
  Calls prog 212 #[.agg #[.int .i64 k,.string t],.string b] w (Ret w (.string (nM k t b))):=by
 have hk':k=0\/k=1\/k=2:=aB;rcases hk' with rfl | rfl | rfl
 all_goals
  go_enter func212,ntmps212;go_wp2;go_ret;exact⟨Qb (by simp[nM]),aJ⟩
theorem aGg(k:Nat)(t b:aC):(nM k t b).size<=t.size+b.size:=by
 unfold nM;split <;> (try split) <;> simp <;> omega
theorem aGh(k k2:Nat)(t t2:aC)(w:World)(ht2:t2.size<=4294967200)(ht:t.size<=4294967200)(hk:k<=2)(hk2:k2<=2) :
  Calls prog 216 #[.agg #[.int .i64 k,.string t],.agg #[.int .i64 k2,.string t2]] w (Ret w (.string (Hw k t k2 t2))):=by
 have h1:=aGg k t ⟨#[97]⟩;have h2:(⟨#[97]⟩:aC).size=1:=rfl;obtain⟨s1,e1⟩:∃ s1,s1=nM k t ⟨#[97]⟩:=⟨_,rfl⟩;have hsz:s1.size<=4294967281:=by rw[e1];omega
 have c1:∀ W,Calls prog 212 #[.agg #[.int .i64 k,.string t],.string ⟨#[97]⟩] W (Ret W (.string s1)):=fun W=>e1▸aCn k t _ W aK aB hk
 have c2:∀ W,Calls prog 212 #[.agg #[.int .i64 k,.string t],.string ⟨#[98]⟩] W (Ret W (.string (nM k t ⟨#[98]⟩))):=fun W=>aCn k t _ W aK aB hk
 have c3:∀ W,Calls prog 149 #[.agg #[.int .i64 k2,.string t2],.string s1] W (Ret W (.bool (dW k2 t2 s1))):=fun W=>Aj k2 t2 s1 W hsz aB hk2
 clear h1 h2 hsz;have H1:=aA c1;have H2:=aA c2;have H3:=aA c3;have E1:=aA e1;clear c1 c2 c3 e1;have hw:Hw k t k2 t2=if dW k2 t2 s1 then nM k t ⟨#[98]⟩ else s1:=by rw[E1.out];rfl
 rw[hw];clear hw E1;cases hh:dW k2 t2 s1;all_goals
  rw[hh]at H3;clear hh;go_enter func216,ntmps216;go_wp2_with fail;refine (H1.out _).mono ?_;rintro e w1 ⟨rfl,hb1⟩;obtain⟨hc1,hf1⟩:=bT hb1;have hz1_0:w.heap.size<w1.heap.size:=iQ;have hz1_1:w.heap.size+1<w1.heap.size:=iQ;go_wp2_with fail;refine (H3.out _).mono ?_;rintro e w2 ⟨rfl,hb2⟩;obtain⟨hc2,hf2⟩:=bT hb2;have hz2_0:w.heap.size<w2.heap.size:=qA;have hz2_1:w.heap.size+1<w2.heap.size:=qA;go_wp2_with fail
 ·go_ret;exact⟨rfl,aJ⟩
 ·refine (H2.out _).mono ?_;rintro e w3 ⟨rfl,hb3⟩;go_wp2_with fail;go_ret;exact⟨rfl,aJ⟩
set_option maxRecDepth 100000
def aEq(s:aC):List aC × Int :=
 if s.toList.isEmpty then ([],0) else if (oM (splitB 44 s)).2=0/\((oM (splitB 44 s)).1.toList==s.toList)=true then (splitB 44 s,0) else ([],3)
def aGi(s tag:aC):Bool:=Lib.containsS (aEq s).1 tag
def aGj(p a:aC):Bool :=
 qJ p&&qJ a&&!decide (0<(dB p).1.query.length)&&(Lib.hasPrefix a.data.toList p.data.toList&&((a.data.toList.drop p.size).isEmpty||(a.data.toList.drop p.size).head? == some 47||(a.data.toList.drop p.size).head? == some 63))
def CB(q:List UInt8 × List UInt8):List UInt8:=q.1++61 :: q.2
theorem aGk:∀(q:List UInt8 × List UInt8)(l:List (List UInt8 × List UInt8)),38 ∉ CB q->(∀ r∈l,38 ∉ CB r)->dO 38 (CB q++eQ 38 l)=(q :: l).map CB
 | q,[],h,_=>by simp[eQ,Fa _ 38 h]
 | q,r :: l,h,hl=>by
  have e:CB q++eQ 38 (r :: l)=CB q++38 :: (CB r++eQ 38 l):=by simp[eQ,CB]
  rw[e,FZ _ _ _ h,aGk r l (hl r aH) (fun z hz=>hl z (by simp[hz]))];rfl
theorem aGl:∀ l:List UInt8,(∀ b∈l,¬ (65<=b.toNat/\b.toNat<=90))->iI l=l
 | [],_=>rfl
 | b :: l,h=>by
  have h1:=h b aH;have h2:=aGl l (fun c hc=>h c (by simp[hc]));unfold iI at h2 ⊢;rw[List.map_cons,h2];congr 1;unfold uy;rw[if_neg h1];exact UInt8.ofNat_toNat
theorem aGm:∀(l out:List aC),(∀ p∈l,bW p=true)->gp out l=some (out++l)
 | [],out,_=>by simp[gp]
 | p :: l,out,h=>by
  have hp:=h p aH;obtain⟨h1,h2,h3,_⟩:=xP hp;have e:kT out p=some (out++[p]):=by
   unfold kT;rw[Lib.toList_data,if_neg (by simp[h2]),if_neg (by simp[h3]),if_pos hp]
  rw[gp,e,Option.bind_some,aGm l _ (fun q hq=>h q (by simp[hq]))];simp
theorem aLf{k v:List UInt8}(hk:bU (toB k)=true)(hv:bW (toB v)=true):ru (toB (CB (k,v)))=some (k,v):=by
 have h61:61 ∉ k:=(rP (nI hk)).2.2.2.1;have e:Lib.cut (CB (k,v)) [61]=(k,v,true):=RZ k v 61 h61;unfold ru;rw[show (toB (CB (k,v))).data.toList=CB (k,v) from rfl,e];simp[hk,hv]
theorem aGn:∀(l acc:List (List UInt8 × List UInt8)),(∀ q∈l,bU (toB q.1)=true/\bW (toB q.2)=true)->gI acc (l.map fun q=>toB (CB q))=some (acc++l)
 | [],acc,_=>by simp[gI]
 | q :: l,acc,h=>by
  have hq:=h q aH;rw[List.map_cons,gI,aLf hq.1 hq.2];simp only;rw[aGn l _ (fun r hr=>h r (by simp[hr]))];simp
theorem aGo(p:List UInt8 × List UInt8):∀ acc:List (List UInt8 × List UInt8),(∀ q∈acc,q.1<p.1)->jG acc p=acc++[p]
 | [],_=>rfl
 | q :: acc,h=>by
  have h1:=h q aH;rw[jG,if_neg (fun e=>List.lt_irrefl _ (by rw[<-e]at h1;exact h1)),if_neg (fun e=>List.lt_irrefl _ (List.lt_trans h1 e)),aGo p acc (fun r hr=>h r (by simp[hr]))];rfl
theorem aGp:∀(l acc:List (List UInt8 × List UInt8)),uO (acc++l)->l.foldl jG acc=acc++l
 | [],acc,_=>aH
 | p :: l,acc,h=>by
  have h1:=List.pairwise_append.1 h;rw[List.foldl_cons,aGo p acc (fun q hq=>h1.2.2 q hq p aH),aGp l (acc++[p]) nD];simp
theorem aLg(l:List (List UInt8 × List UInt8))(h:uO l):jU l=l:=by
 have:=aGp l [] nD;simpa[jU] using this
theorem aCo(s:aC):toB s.data.toList=s:=fK rfl
theorem aLh(qs:List (aC × aC))(q:aC × aC)(h:∀ r∈q :: qs,bU r.1=true/\bW r.2=true)(hup:BN (q :: qs)) :
  lN (toB (CB (q.1.data.toList,q.2.data.toList)++eQ 38 (fO qs)))=some (q :: qs):=by
 have h38:∀ r∈q :: qs,38 ∉ CB (r.1.data.toList,r.2.data.toList):=by
  intro r hr;have h1:=(rP (nI (h r hr).1)).2.2.1;have h2:=(rP (h r hr).2).2.2.1;simp[CB,h1,h2]
 have hs:=aGk (q.1.data.toList,q.2.data.toList) (fO qs) (h38 q aH) (by
  intro r hr;obtain⟨x,hx,rfl⟩:=List.mem_map.1 hr;exact h38 x gB)
 unfold lN;have hne:¬ ((toB (CB (q.1.data.toList,q.2.data.toList)++eQ 38 (fO qs))).toList.isEmpty=true):=by
  rw[Lib.toList_data];simp[toB,CB]
 rw[if_neg hne];have hsp:splitB 38 (toB (CB (q.1.data.toList,q.2.data.toList)++eQ 38 (fO qs)))=(fO (q :: qs)).map fun r=>toB (CB r):=by
  unfold splitB;rw[show (toB (CB (q.1.data.toList,q.2.data.toList)++eQ 38 (fO qs))).data.toList=CB (q.1.data.toList,q.2.data.toList)++eQ 38 (fO qs) from rfl,hs];simp[fO,toB]
 rw[hsp,aGn _ [] (by
  intro r hr;obtain⟨x,hx,rfl⟩:=List.mem_map.1 hr;have:=h x hx;rw[aCo,aCo];exact this)]
 simp only[List.nil_append,Option.map_some];rw[aLg _ (by
  unfold uO fO;exact List.pairwise_map.2 hup)]
 congr 1;unfold fO;rw[List.map_map]
 conv=>rhs;rw[<-List.map_id (q :: qs)]
 refine List.map_congr_left fun x _=>?_
 simp[aCo]
theorem aGq(xs:List aC)(h:∀ p∈xs,bW p=true)(b:UInt8)(hb:b∈dF (az xs)):b=47\/jW b=true:=by
 unfold dF az at hb;obtain⟨l,hl,hb⟩:=List.mem_flatMap.1 hb;obtain⟨x,hx,rfl⟩:=List.mem_map.1 hl;rcases List.mem_cons.1 hb with h1 | h1
 ·exact .inl h1
 ·exact .inr (mD (h x hx) b h1)
theorem aGr:∀(sep:UInt8)(qs:List (aC × aC)),(∀ r∈qs,bU r.1=true/\bW r.2=true)->∀ b,b∈eQ sep (fO qs)->b=sep\/b=38\/b=61\/jW b=true
 | sep,[],_,b,hb=>by simp[fO,eQ]at hb
 | sep,q :: qs,h,b,hb=>by
  have e:eQ sep (fO (q :: qs))=sep :: (q.1.data.toList++61 :: q.2.data.toList)++eQ 38 (fO qs):=rfl;rw[e]at hb;have hq:=h q aH;simp only[List.cons_append,List.mem_cons,List.mem_append]at hb;rcases hb with h1 | (h1 | h1 | h1) | h1
  ·exact .inl h1
  ·exact .inr (.inr (.inr (mD (nI hq.1) b h1)))
  ·exact .inr (.inr (.inl h1))
  ·exact .inr (.inr (.inr (mD hq.2 b h1)))
  ·rcases aGr 38 qs (fun r hr=>h r (by simp[hr])) b h1 with h2 | h2
   ·exact .inr (.inl h2)
   ·exact .inr h2
theorem aLi{b:UInt8}(h:b=47\/b=63\/b=38\/b=61\/jW b=true):¬ (65<=b.toNat/\b.toNat<=90):=by
 rcases h with rfl | rfl | rfl | rfl | h
 ·decide
 ·decide
 ·decide
 ·decide
 ·exact (rO b h).2.2.2.2.2.2
theorem aLj{a:Adr}(h:BM a):∀ b∈W06 a.cust a.path a.query,¬ (65<=b.toNat/\b.toNat<=90):=by
 intro b hb;unfold W06 kU at hb;simp only[List.mem_append]at hb;refine aLi ?_;rcases hb with (h1 | h1) | h1
 ·exact .inr (.inr (.inr (.inr (mD (nI h.name) b h1))))
 ·rcases aGq _ h.words b h1 with h2 | h2
  ·exact .inl h2
  ·exact .inr (.inr (.inr (.inr h2)))
 ·rcases aGr 63 _ h.query b h1 with h2 | h2 | h2 | h2
  ·exact .inr (.inl h2)
  ·exact .inr (.inr (.inl h2))
  ·exact .inr (.inr (.inr (.inl h2)))
  ·exact .inr (.inr (.inr (.inr h2)))
theorem aLk:lN (toB [])=some []:=by
 unfold lN;rw[if_pos (by rw[Lib.toList_data];rfl)]
def aBs(a:Adr):List UInt8:=a.cust.data.toList++dF (az a.path)
theorem aGs{a:Adr}(h:BM a):63 ∉ aBs a:=by
 intro hm;unfold aBs at hm;rcases List.mem_append.1 hm with h1 | h1
 ·exact (rP (nI h.name)).2.1 h1
 ·rcases aGq _ h.words _ h1 with h2 | h2
  ·exact absurd h2 aK
  ·exact (rO _ h2).2.1 rfl
theorem aGt{a:Adr}(h:BM a):(dR (toB (W06 a.cust a.path a.query))).1=aBs a/\lN (toB (dR (toB (W06 a.cust a.path a.query))).2.1)=some a.query:=by
 unfold dR;rw[show (toB (W06 a.cust a.path a.query)).data.toList=W06 a.cust a.path a.query from rfl,aGl _ (aLj h)];have e:W06 a.cust a.path a.query=aBs a++eQ 63 (fO a.query):=rfl;rw[e];cases hq:a.query with
 | nil =>
  rw[show eQ 63 (fO [])=[] from rfl,List.append_nil,Rf _ _ (aGs h)];exact⟨rfl,aLk⟩
 | cons q qs =>
  have e2:eQ 63 (fO (q :: qs))=63 :: (CB (q.1.data.toList,q.2.data.toList)++eQ 38 (fO qs)):=by
   simp[fO,eQ,CB]
  rw[e2,RZ _ _ _ (aGs h)];exact⟨rfl,aLh qs q (by rw[<-hq];exact h.query) (by rw[<-hq];exact h.up)⟩
theorem aGu(l:List UInt8)(x:UInt8)(hx:x≠47):Lib.trimSuffix (l++[x]) [47]=l++[x]:=by
 unfold Lib.trimSuffix;rw[if_neg];unfold Lib.hasSuffix;intro h;rw[List.isSuffixOf_iff_suffix]at h;obtain⟨t,ht⟩:=h;have:=(List.append_inj' ht rfl).2;simp at this;exact hx this.symm
theorem aGv{s:aC}(h:bW s=true):∃ l x,s.data.toList=l++[x]/\x≠47:=by
 have hne:=(xP h).1;refine⟨s.data.toList.dropLast,s.data.toList.getLast hne,(List.dropLast_concat_getLast hne).symm,?_⟩;exact (rO _ (mD h _ (List.getLast_mem hne))).1
theorem aLl{a:Adr}(h:BM a):∃ l x,aBs a=l++[x]/\x≠47:=by
 unfold aBs;rcases List.eq_nil_or_concat a.path with hp | ⟨p,x,hp⟩
 ·rw[hp];obtain⟨l,x,h1,h2⟩:=aGv (nI h.name);exact⟨l,x,by simp[az,dF,h1],h2⟩
 ·obtain⟨l,y,h1,h2⟩:=aGv (h.words x (by rw[hp];simp));refine⟨a.cust.data.toList++(dF (az p)++47 :: l),y,?_,h2⟩;rw[hp];simp[az,dF,h1]
theorem aGw{a:Adr}(h:BM a):(dw (toB (W06 a.cust a.path a.query))).1=a.cust.data.toList/\mW (dw (toB (W06 a.cust a.path a.query)))=some a.path:=by
 obtain⟨l,x,he,hx⟩:=aLl h;have hc:=(rP (nI h.name)).1;unfold dw;rw[(aGt h).1,he,aGu l x hx,<-he];unfold aBs;cases hp:a.path with
 | nil =>
  rw[show dF (az [])=[] from rfl,List.append_nil,Rf _ _ hc];exact⟨rfl,rfl⟩
 | cons p ps =>
  have e2:dF (az (p :: ps))=47 :: (p.data.toList++dF (az ps)):=by simp[dF,az]
  have hw:∀ q∈p :: ps,bW q=true:=by rw[<-hp];exact h.words
  rw[e2,RZ _ _ _ hc];refine⟨rfl,?_⟩;unfold mW;simp only[if_true];have hs:=Fb p.data.toList (az ps) (rP (hw p aH)).1 (by
   intro y hy;obtain⟨z,hz,rfl⟩:=List.mem_map.1 hy;exact (rP (hw z (by simp[hz]))).1)
  have hsp:splitB 47 (toB (p.data.toList++dF (az ps)))=p :: ps:=by
   unfold splitB;rw[show (toB (p.data.toList++dF (az ps))).data.toList=p.data.toList++dF (az ps) from rfl,hs];have:∀ z:aC,(⟨z.data.toList.toArray⟩:aC)=z:=fun z=>fK rfl
   simp[az,Function.comp_def]
  rw[hsp,aGm _ _ hw];rfl
theorem aGx{a:Adr}(h:BM a)(hs:(W06 a.cust a.path a.query).length<=4096):dB (toB (W06 a.cust a.path a.query))=(a,0):=by
 unfold dB;have hz:¬ 4096<(toB (W06 a.cust a.path a.query)).size:=by
  rw[Lib.size_eq,show (toB (W06 a.cust a.path a.query)).data.toList=W06 a.cust a.path a.query from rfl];omega
 rw[if_neg hz,(aGw h).1,(aGw h).2,(aGt h).2,aCo,h.name];unfold pI;simp only;rw[if_pos ⟨h.parts,h.pairs⟩]
theorem aLm{a:Adr}(h:BM a)(hs:(W06 a.cust a.path a.query).length<=4096):qJ (toB (W06 a.cust a.path a.query))=true:=by
 unfold qJ;rw[aGx h hs];simp[toB]
theorem aEr(s:aC):bW s=true↔s.data.toList ≠ []/\s.data.toList ≠ [46]/\s.data.toList ≠ [46,46]/\s.size<=64/\∀ b∈s.data.toList,jW b=true:=by
 constructor
 ·intro h;obtain⟨h1,h2,h3,h4⟩:=xP h;exact⟨h1,h2,h3,h4,mD h⟩
 ·rintro⟨h1,h2,h3,h4,h5⟩;unfold bW;rw[Lib.toList_data];simp only[Bool.and_eq_true,Bool.not_eq_true',decide_eq_true_eq,List.all_eq_true,beq_eq_false_iff_ne];exact⟨⟨⟨⟨by simpa using h1,h4⟩,h2⟩,h3⟩,h5⟩
theorem aLn(s:aC):bU s=true↔bW s=true/\46 ∉ s.data.toList:=by
 unfold bU;simp only[Bool.and_eq_true,Bool.not_eq_true',decide_eq_false_iff_not];constructor
 ·rintro⟨h1,h2⟩;exact⟨h1,RY _ _ aB⟩
 ·rintro⟨h1,h2⟩;exact⟨h1,by rw[xN _ _ h2];omega⟩
theorem aGy{c:UInt8}(hc:c=97\/c=98):jW c=true/\c≠46:=by
 rcases hc with rfl | rfl <;> exact⟨aK,aK⟩
theorem aEs(k:Nat)(t:aC)(c:UInt8):(nM k t ⟨#[c]⟩).data.toList=if k=0 then t.data.toList else if k=1 then c :: t.data.toList else [c]:=by
 unfold nM;split
 ·rfl
 ·split
  ·simp
  ·rfl
theorem aDa{c:UInt8}(hc:c=97\/c=98):bU ⟨#[c]⟩=true:=by
 rcases hc with rfl | rfl <;> decide +kernel
theorem aBn{p:bI}(hp:gU p){c:UInt8}(hc:c=97\/c=98):bW (nM p.kind p.text ⟨#[c]⟩)=true/\dW p.kind p.text (nM p.kind p.text ⟨#[c]⟩)=true:=by
 obtain⟨k,t⟩:=p;rcases hp with ⟨hk,hw⟩ | ⟨hk,s,hs,hs2,ht⟩ | ⟨hk,hw⟩ <;> dsimp only at * <;> subst hk
 ·have e:nM 0 t ⟨#[c]⟩=t:=rfl;rw[e,Ri];exact⟨hw,rfl⟩
 ·have e:=aEs 1 t c;rw[if_neg aK,if_pos rfl]at e;have hz:t.size=s.size+1:=by rw[jY,jY,ht];rfl
  have hz2:(nM 1 t ⟨#[c]⟩).size=t.size+1:=by rw[jY,jY,e];rfl
  rw[Fe,aEr,e,hz2];obtain⟨g1,g2,g3,g4,g5⟩:=(aEr s).1 hs;refine⟨⟨aH,by rw[ht];simp,?_,aB,?_⟩,aB,List.suffix_cons _ _⟩
  ·rw[ht];intro h;injection h with h1 h2
   exact (aGy hc).2 h1
  ·intro b hb;rw[ht]at hb;rcases List.mem_cons.1 hb with rfl | hb
   ·exact (aGy hc).1
   ·rcases List.mem_cons.1 hb with rfl | hb
    ·decide
    ·exact g5 b hb
 ·have e:nM 2 t ⟨#[c]⟩=⟨#[c]⟩:=rfl;rw[e];exact⟨nI (aDa hc),Ff _ _⟩
theorem aCp{p:bI}(hp:oP p){c:UInt8}(hc:c=97\/c=98):bU (nM p.kind p.text ⟨#[c]⟩)=true:=by
 obtain⟨k,t⟩:=p;rcases hp with ⟨hk,hw⟩ | ⟨hk,hw⟩ <;> dsimp only at * <;> subst hk
 ·exact hw
 ·exact aDa hc
theorem aGz{p q:bI}(hp:gU p)(hq:gU q)(h:fC q.kind q.text p.kind p.text=false) :
  bW (Hw p.kind p.text q.kind q.text)=true/\dW p.kind p.text (Hw p.kind p.text q.kind q.text)=true/\dW q.kind q.text (Hw p.kind p.text q.kind q.text)=false:=by
 have ha:=aBn hp (c:=97) (.inl rfl);have hb:=aBn hp (c:=98) (.inr rfl);unfold Hw;cases hh:dW q.kind q.text (nM p.kind p.text ⟨#[97]⟩)
 ·simp only[Bool.false_eq_true,if_false];exact⟨ha.1,ha.2,hh⟩
 ·simp only[if_true];refine⟨hb.1,hb.2,?_⟩;have da:=aEs p.kind p.text 97;have db:=aEs p.kind p.text 98;obtain⟨k,t⟩:=p;obtain⟨k2,t2⟩:=q;dsimp only at *;rw[Bool.eq_false_iff];intro hn;have hne:fC k2 t2 k t≠true:=by rw[h];decide
  rcases hp with ⟨hk,_⟩ | ⟨hk,_⟩ | ⟨hk,_⟩ <;> dsimp only at hk <;> subst hk
  ·rw[Rj]at hne;exact hne hh
  ·rw[if_neg aK,if_pos rfl]at da db;rcases hq with ⟨hk,_⟩ | ⟨hk,_⟩ | ⟨hk,_⟩ <;> dsimp only at hk <;> subst hk
   ·exact aHa
   ·rw[Fe,da]at hh;obtain⟨hz,hs⟩:=hh;rw[jY,jY,da]at hz;rcases List.suffix_cons_iff.1 hs with e | e
    ·rw[e]at hz;simp at hz
    ·exact hne ((Rk 1 t2 t).2 (.inr ⟨rfl,e⟩))
   ·exact hne ((Rk 2 t2 t).2 (.inl rfl))
  ·rw[if_neg aK,if_neg aK]at da db;rcases hq with ⟨hk,_⟩ | ⟨hk,s,_,_,ht⟩ | ⟨hk,_⟩ <;> dsimp only at hk <;> subst hk
   ·exact aHa
   ·rw[Fe]at hh;dsimp only at ht;have hz:=hh.1;rw[jY,jY,da,ht]at hz;simp at hz
   ·exact hne ((Rl 2 t2 t).2 rfl)
theorem aLo{a b w:List UInt8}(ha:a <:+ w)(hb:b <:+ w):a <:+ b\/b <:+ a:=by
 rcases Nat.le_total a.length b.length with h | h
 ·exact .inl (List.suffix_of_suffix_length_le ha hb h)
 ·exact .inr (List.suffix_of_suffix_length_le hb ha h)
theorem aHb{p q:bI}(hp:gU p)(hq:gU q)(h:nJ p q=false)(w:aC)(h1:dW p.kind p.text w=true)(h2:dW q.kind q.text w=true):False:=by
 unfold nJ at h;rw[Bool.or_eq_false_iff]at h;obtain⟨k,t⟩:=p;obtain⟨k2,t2⟩:=q;dsimp only at *;have n1:fC k t k2 t2≠true:=by rw[h.1];decide
 have n2:fC k2 t2 k t≠true:=by rw[h.2];decide
 rcases hp with ⟨hk,_⟩ | ⟨hk,_⟩ | ⟨hk,_⟩ <;> dsimp only at hk <;> subst hk
 ·rw[Ri]at h1;subst h1;rw[Rj]at n2;exact n2 h2
 ·rcases hq with ⟨hk,_⟩ | ⟨hk,_⟩ | ⟨hk,_⟩ <;> dsimp only at hk <;> subst hk
  ·rw[Ri]at h2;subst h2;rw[Rj]at n1;exact n1 h1
  ·rw[Fe]at h1 h2;rcases aLo h1.2 h2.2 with e | e
   ·exact n1 ((Rk _ _ _).2 (.inr ⟨rfl,e⟩))
   ·exact n2 ((Rk _ _ _).2 (.inr ⟨rfl,e⟩))
  ·exact n2 ((Rk _ _ _).2 (.inl rfl))
 ·rcases hq with ⟨hk,_⟩ | ⟨hk,_⟩ | ⟨hk,_⟩ <;> dsimp only at hk <;> subst hk
  ·rw[Rj]at n1;exact n1 (Ff _ _)
  ·exact n1 ((Rk _ _ _).2 (.inl rfl))
  ·exact n1 ((Rl _ _ _).2 rfl)
theorem aHc(kd:Nat)(tx:aC)(A:Option Addr)(n c:Nat)(tl:Bool)(ps:List bI)(w:World)(hR:aI w 2 A n (eG ps))(hok:oZ ps)(hn:n<=100000) :
  Calls prog 213 #[.agg #[.int .i64 kd,.string tx,.slice A n c,.bool tl]] w fun e w'=>∃ A' c',e=.returned (.slice A' n c')/\w'.ownsRow w.heap.size 9 1 (.slice A' n c') n ((qN ps).map .string)/\aF w w':=by
 have hpn:ps.length=n:=by have:=hR.1;rw[SK]at this;omega
 obtain⟨i0,hi0,hz0,hz1,hz2⟩:=info_parts rY;have HI:Hid ((prog.info? 9=some i0)/\i0.zero=some (.string ⟨#[]⟩)/\i0.size=1/\i0.bytes=16):=aA ⟨hi0,hz0,hz1,hz2⟩;have HOK:=aA hok;have HR:=aA hR;have HPN:=aA hpn;clear hi0 hz0 hz1 hz2 hok hR hpn;go_enter func213,ntmps213;go_wp2_with fail;go_loopw [3,9] (fun va vi wr=>∃(k:Nat)(A':Option Addr)(c':Nat),(va=.slice A' k c'/\vi=.int .i64 k/\k<=n)/\wr.ownsRow w.heap.size 9 1 (.slice A' k c') k (((qN ps).take k).map .string)/\aF w wr) (fun _ vi _=>n-(intOf vi).toNat)
 case atStart=>exact⟨0,none,0,⟨rfl,rfl,Nat.zero_le _⟩,World.ownsRow_nil _ _ _ _,aU (Below.refl _ _) _⟩
 case round =>
  obtain⟨k,A',c',⟨rfl,rfl,hk⟩,hown,hbr⟩:=hrel;by_cases hlt:k<n
  ·obtain⟨p,hp⟩:∃ p,ps[k]? = some p:=⟨_,List.getElem?_eq_getElem (by have:=HPN.out;omega)⟩;obtain⟨hpk,hpt⟩:=HOK.out p (List.mem_of_getElem? hp);obtain⟨pb,po,rfl,hcell⟩:=(HR.out.keep hbr).2 aB;obtain⟨e1,e2⟩:=xY ps k p hp;have hc1:wr.cell? ⟨pb,po+k*2,none⟩=_:=hcell _ _ e1;have hc2:wr.cell? ⟨pb,po+k*2+1,none⟩=_:=hcell _ _ e2;have hwl:(qN ps)[k]? = some (nM p.kind p.text ⟨#[97]⟩):=by simp[qN,hp]
   have htk:(qN ps).take (k+1)=(qN ps).take k++[nM p.kind p.text ⟨#[97]⟩]:=by rw[List.take_add_one,hwl];rfl
   have HTK:=aA htk;have cW:=fun W=>aCn p.kind p.text ⟨#[97]⟩ W aK aB hpk
   clear hp hcell e1 e2 hwl htk;generalize nM p.kind p.text ⟨#[97]⟩=x at *;obtain⟨pk,pt⟩:=p;dsimp only at *;have HW:=aA cW;clear cW;go_wp2_with (first | (go_at_call 212;refine (HW.out _).mono ?_;rintro e w2 ⟨rfl,hb2⟩) | (at_builtin;refine wpList_append_own _ rfl _ _ 24 rfl w.heap.size 9 i0 (.string ⟨#[]⟩) 1 16 underlying24 HI.out.1 HI.out.2.1 HI.out.2.2.1 HI.out.2.2.2 rfl aK _ _ _ rfl ((fZ (hown.alloc _) hb2).alloc _) ⟨w2.heap.size,0,none⟩ 1 1 [.string x] rfl rfl (cell_one_new _ _ _) jJ dh aB GN ?_;intro v' w3 hown' hgrow _;obtain⟨g',cap',rfl⟩:=ownsRow_succ hown'));refine⟨⟨k+1,some ⟨g',0,none⟩,cap',⟨rfl,bg,aB⟩,?_,?_⟩,dD⟩
   ·rw[HTK.out,List.map_append];exact hown'
   ·have h1:=hbr.size;have h2:=hb2.size;simp at h2;exact ((hbr.trans (dZ _ hb2 |>.mono h1)).alloc aB _).grown hgrow aP (fun r e=>fE hown r e)
  ·obtain rfl:k=n:=aB;go_wp2;go_ret;exact⟨A',c',rfl,by have:(qN ps).take k=qN ps:=List.take_of_length_le (by simp[qN];have:=HPN.out;omega);rw[this]at hown;exact hown,hbr⟩
theorem aEt(cu:aC)(A:Option Addr)(n c:Nat)(ws:List aC)(w:World)(hR:aI w 1 A n (ws.map .string))(hn:n<=100000)(hcu:cu.size<=200000)(hsz:∀ x∈ws,x.size<=200000) :
  Calls prog 215 #[.string cu,.slice A n c] w (Ret w (.string (jI (cu :: ws)))):=by
 have hl:ws.length=n:=zY;obtain⟨i0,hi0,hz0,hz1,hz2⟩:=info_parts rY;have HI:Hid ((prog.info? 9=some i0)/\i0.zero=some (.string ⟨#[]⟩)/\i0.size=1/\i0.bytes=16):=aA ⟨hi0,hz0,hz1,hz2⟩;clear hi0 hz0 hz1 hz2;have hsz':∀ x∈cu :: ws,x.size<=200000:=by
  intro x hx;rcases List.mem_cons.1 hx with rfl | hx
  ·exact hcu
  ·exact hsz x hx
 have HS:=aA hsz';by_cases h0:A=none
 ·subst h0;have hn0:n=0:=by
   rcases Nat.eq_zero_or_pos n with h | h
   ·exact h
   ·obtain⟨_,_,h,_⟩:=hR.2 h;cases h
  subst hn0;have hws:ws=[]:=List.eq_nil_of_length_eq_zero hl;subst hws;have cJ:=GK w.heap.size 1 1 [cu] _ _ (SL w cu) aB HS.out;go_enter func215,ntmps215;go_wp2_with (go_at_call 72;refine cJ.mono ?_;rintro e w2 ⟨rfl,hb2⟩);go_ret;exact⟨rfl,aJ⟩
 ·obtain⟨ad,rfl⟩:=Option.ne_none_iff_exists'.1 h0;have hnews:∀ j u,(ws.map Value.string)[j]? = some u->(w.alloc (.cells #[.string cu] 9)).cell? (ad.add j)=some u:=by
   intro j u hu;have hjl:=(List.getElem?_eq_some_iff.1 hu).1;obtain⟨b,o,he,hc⟩:=hR.2 (by simp at hjl;omega);injection he with he;subst he
   rw[Addr.add_lit];exact aW (aU (Below.refl _ w) _) (hc j u hu)
  have HN:=aA hnews;have HL:=aA hl;clear hnews hR h0 hl hsz';go_enter func215,ntmps215;go_wp2_with (at_builtin;refine wpList_append_own _ rfl _ _ 24 rfl w.heap.size 9 i0 (.string ⟨#[]⟩) 1 16 underlying24 HI.out.1 HI.out.2.1 HI.out.2.2.1 HI.out.2.2.2 rfl aK _ _ _ rfl (SL w cu) ad n c (ws.map .string) rfl (by have:=HL.out;simp;omega) HN.out (by intro u hu;obtain⟨x,_,rfl⟩:=List.mem_map.1 hu;rfl) dh aB aH ?_;intro v' w3 hown' hgrow hnil);obtain⟨A',c',rfl⟩:∃ A' c',v'=.slice (some ⟨A',0,none⟩) (1+n) c':=by
   rcases hown'.2 with ⟨h,h2⟩ | ⟨g,cap,cur,h,_⟩
   ·omega
   ·exact⟨_,_,h⟩
  have cJ:=GK A' (1+n) c' (cu :: ws) w3 w.heap.size hown' aB HS.out;have hb3:=(aU (Below.refl _ w) (.cells #[.string cu] 9)).grown hgrow aH (fun r e=>fE (SL w cu) r e);clear hgrow hown' hnil;go_wp2_with (go_at_call 72;refine cJ.mono ?_;rintro e w4 ⟨rfl,hb4⟩);go_ret;exact⟨rfl,aJ⟩
theorem aDb:∀(ps:List bI),(∀ p∈ps,gU p)->∀ ex,eH ps (qN ps++ex)=true
 | [],_,ex=>by simp[eH]
 | p :: ps,h,ex=>by
  have h1:=(aBn (h p aH) (c:=97) (.inl rfl)).2;have h2:=aDb ps (fun q hq=>h q (by simp[hq])) ex;simp only[qN,List.map_cons,List.cons_append,eH,h1,Bool.true_and]at h2 ⊢;exact h2
theorem aEu:∀(xs ys acc:List bI),(∀ p∈xs,gU p)->(∀ p∈ys,gU p)->mtL acc xs ys=none->∀ ws,eH xs ws=true->eH ys ws=true->False
 | [],ys,acc,_,_,e,ws,_,_=>by
  have:mtL acc [] ys=some acc:=by cases ys <;> rfl
  rw[this]at e;cases e
 | a :: xs,[],acc,hx,hy,e,ws,h1,h2=>by
  rw[mtL]at e;cases ws with
  | nil=>simp[eH]at h1
  | cons w ws =>
   simp only[eH,Bool.and_eq_true]at h1;exact aEu xs [] (acc++[a]) (fun p hp=>hx p oV) hy e ws h1.2 rfl
 | a :: xs,b :: ys,acc,hx,hy,e,ws,h1,h2=>by
  rw[mtL]at e;cases ws with
  | nil=>simp[eH]at h1
  | cons w ws =>
   simp only[eH,Bool.and_eq_true]at h1 h2;split at e
   ·exact aEu xs ys _ (fun p hp=>hx p oV) (fun p hp=>hy p oV) e ws h1.2 h2.2
   ·rename_i hm;exact aHb (hx a aH) (hy b aH) (by simpa using hm) w h1.1 h2.1
theorem aHd{x y:Pat}(hx:lK x)(hy:lK y)(h:oz x y=none)(a:Adr)(h1:mG x a=true)(h2:mG y a=true):False:=by
 rw[A8]at h1 h2;unfold oz at h;split at h
 ·rename_i hc;simp only[Bool.or_eq_true,Bool.not_eq_true',Bool.and_eq_true,decide_eq_true_eq]at hc;rcases hc with hc | ⟨hc1,hc2⟩
  ·exact aHb hx.cust.part hy.cust.part hc a.cust h1.1 h2.1
  ·have:=Az _ _ h1.2.1;rcases h2.2.2 with e | e
   ·rw[hc2]at e;cases e
   ·omega
 ·rw[Option.map_eq_none_iff]at h;exact aEu _ _ [] hx.parts hy.parts h a.path h1.2.1 h2.2.1
theorem aHe{x y:Pat}(hx:lK x)(hy:lK y)(h:jL x y=none)(a:Adr):(mG x a&&mG y a)=false:=by
 rw[Bool.eq_false_iff];intro hm;rw[Bool.and_eq_true]at hm;unfold jL at h;split at h
 ·exact aHd hy hx h a hm.2 hm.1
 ·exact aHd hx hy h a hm.1 hm.2
def exA(z:Pat):Adr:=⟨nM z.cust.kind z.cust.text ⟨#[97]⟩,qN z.parts,[]⟩
theorem aDc{z:Pat}(hz:lK z):mG z (exA z)=true:=by
 rw[A8];refine⟨(aBn hz.cust.part (.inl rfl)).2,?_,.inr (uQ _)⟩;have:=aDb z.parts hz.parts []
 rwa [List.append_nil]at this
theorem aHf:∀(xs ys:List bI),(∀ p∈ys,gU p)->Hl xs ys=true->∀ ws,eH ys ws=true->eH xs ws=true
 | [],_,_,_,_,_=>by simp[eH]
 | a :: xs,[],_,h,_,_=>by simp[Hl]at h
 | a :: xs,b :: ys,hy,h,[],hm=>by simp[eH]at hm
 | a :: xs,b :: ys,hy,h,w :: ws,hm=>by
  simp only[Hl,Bool.and_eq_true]at h;simp only[eH,Bool.and_eq_true]at hm ⊢;exact⟨Fg (hy b aH) h.1 w hm.1,aHf xs ys (fun p hp=>hy p oV) h.2 ws hm.2⟩
theorem aHg(x y:Pat):BC x y=true↔fC x.cust.kind x.cust.text y.cust.kind y.cust.text=true/\x.parts.length<=y.parts.length/\(x.parts.length<y.parts.length->x.tail=true)/\(y.tail=true->x.tail=true)/\Hl x.parts y.parts=true:=by
 unfold BC;cases x.tail <;> cases y.tail <;> simp[and_assoc]
theorem aLp{x y:Pat}(hx:lK x)(hy:lK y)(h:BC x y=true)(a:Adr)(hm:mG y a=true):mG x a=true:=by
 rw[aHg]at h;obtain⟨h1,h2,h3,h4,h5⟩:=h;rw[A8]at hm ⊢;obtain⟨e1,e2,e3⟩:=hm;refine⟨Fg hy.cust.part h1 _ e1,aHf _ _ hy.parts h5 _ e2,?_⟩;have:=Az _ _ e2;rcases e3 with e3 | e3
 ·exact .inl (h4 e3)
 ·rcases Nat.lt_or_ge x.parts.length y.parts.length with h | h
  ·exact .inl (h3 h)
  ·exact .inr aB
theorem aLq(c:aC)(ws:List aC):jI (c :: ws)=toB (W06 c ws []):=by
 refine fK ?_;rw[yB];show _=W06 c ws [];unfold W06 kU;simp[fO,eQ]
theorem aHh{c:aC}{ws:List aC}(hc:bU c=true)(hw:∀ w∈ws,bW w=true)(hn:ws.length<=32):BM ⟨c,ws,[]⟩ :=
 ⟨hc,hw,hn,aH,aH,List.Pairwise.nil⟩
theorem aHi{c:aC}{ws:List aC}(hc:bU c=true)(hw:∀ w∈ws,bW w=true)(hn:ws.length<=32):(W06 c ws []).length<=4096:=by
 have h1:=Pj (az ws) (by
  intro p hp;obtain⟨x,hx,rfl⟩:=List.mem_map.1 hp;have:=xm (hw x hx);rw[Lib.size_eq]at this;exact this)
 have h2:=rH hc;rw[Lib.size_eq]at h2;simp only[az,List.length_map]at h1;simp only[W06,kU,List.length_append,az,fO,List.map_nil,eQ,List.length_nil];omega
theorem aHj{c:aC}{ws:List aC}(hc:bU c=true)(hw:∀ w∈ws,bW w=true)(hn:ws.length<=32):dB (jI (c :: ws))=(⟨c,ws,[]⟩,0)/\qJ (jI (c :: ws))=true:=by
 rw[aLq];exact⟨aGx (aHh hc hw hn) (aHi hc hw hn),aLm (aHh hc hw hn) (aHi hc hw hn)⟩
theorem aBt{p:aC}{x:Pat}(hx:dI p=some x){c:aC}{ws:List aC}(hc:bU c=true)(hw:∀ w∈ws,bW w=true)(hn:ws.length<=32):qO p (jI (c :: ws))=mG x ⟨c,ws,[]⟩:=by
 obtain⟨h1,h2⟩:=aHj hc hw hn;unfold qO;rw[hx,h1,h2];simp
theorem aDd{ps:List bI}(h:∀ p∈ps,gU p):∀ w∈qN ps,bW w=true:=by
 intro w hw;obtain⟨p,hp,rfl⟩:=List.mem_map.1 hw;exact (aBn (h p hp) (.inl rfl)).1
theorem aHk{p:aC}{x z:Pat}(hx:dI p=some x)(hz:lK z):qO p (Ht z)=mG x (exA z) :=
 aBt hx (aCp hz.cust (.inl rfl)) (aDd hz.parts) (by rw[uQ];have:=hz.num;omega)
theorem aHl:∀(xs ys:List bI)(ws:List aC),(∀ p∈xs,gU p)->(∀ p∈ys,gU p)->Hu xs ys=some ws->ws.length=ys.length/\(∀ w∈ws,bW w=true)/\eH ys ws=true/\eH xs ws=false
 | [],_,_,_,_,e=>by simp[Hu]at e
 | _ :: _,[],_,_,_,e=>by simp[Hu]at e
 | a :: xs,b :: ys,ws,hx,hy,e=>by
  have ha:=hx a aH;have hb:=hy b aH;rw[Hu]at e;split at e
  ·obtain⟨r,hr,rfl⟩:=Option.map_eq_some_iff.1 e;obtain⟨h1,h2,h3,h4⟩:=aHl xs ys r (fun p hp=>hx p oV) (fun p hp=>hy p oV) hr;have hw:=aBn hb (c:=97) (.inl rfl);refine⟨by simp[h1],?_,by simp[eH,hw.2,h3],by simp[eH,h4]⟩;intro w hm;rcases List.mem_cons.1 hm with rfl | hm
   ·exact hw.1
   ·exact h2 w hm
  ·rename_i hc;injection e with e;subst e
   have hw:=aGz hb ha (by simpa using hc);have hys:∀ p∈ys,gU p:=fun p hp=>hy p oV
   have hm:=aDb ys hys [];rw[List.append_nil]at hm;refine⟨by simp[qN],?_,by simp[eH,hw.2.1,hm],by simp[eH,hw.2.2]⟩;intro w hm2;rcases List.mem_cons.1 hm2 with rfl | hm2
   ·exact hw.1
   ·exact aDd hys w hm2
theorem aHm:∀(xs ys:List bI),xs.length<=ys.length->Hu xs ys=none->Hl xs ys=true
 | [],_,_,_=>rfl
 | a :: xs,[],h,_=>nG
 | a :: xs,b :: ys,h,e=>by
  rw[Hu]at e;split at e
  ·rename_i hc;rw[Option.map_eq_none_iff]at e;simp only[Hl,hc,Bool.true_and];exact aHm xs ys nD e
  ·cases e
theorem aLr{p q:bI}(hp:oP p):bU (Hw p.kind p.text q.kind q.text)=true:=by
 unfold Hw;split
 ·exact aCp hp (.inr rfl)
 ·exact aCp hp (.inl rfl)
theorem aHn{p q:aC}{x y:Pat}(hx:dI p=some x)(hy:dI q=some y)(h:BC x y=false):qO q (Hy x y)=true/\qO p (Hy x y)=false:=by
 have fx:=rZ hx;have fy:=rZ hy;have hw:=aDd fy.parts;have hn:=fy.num;have hm:=aDb y.parts fy.parts;have hne:¬ BC x y=true:=by rw[h];decide
 rw[aHg]at hne;unfold Hy;split
 ·rename_i hc;simp only[Bool.not_eq_true']at hc;have hwo:=aGz fy.cust.part fx.cust.part hc;have hname:=aLr (q:=x.cust) fy.cust;rw[aBt hy hname hw (by rw[uQ];omega),aBt hx hname hw (by rw[uQ];omega)];constructor
  ·rw[A8];exact⟨hwo.2.1,by simpa using hm [],.inr (uQ _)⟩
  ·rw[Bool.eq_false_iff];intro hf;rw[A8]at hf;have:=hf.1;dsimp only at this;rw[hwo.2.2]at this;cases this
 ·rename_i hc;simp only[Bool.not_eq_true',Bool.not_eq_false]at hc;split
  ·rename_i hl;simp only[Bool.or_eq_true,Bool.and_eq_true,decide_eq_true_eq,Bool.not_eq_true']at hl;rw[aHk hy fy,aHk hx fy];refine⟨aDc fy,?_⟩;rw[Bool.eq_false_iff];intro hf;rw[A8]at hf;have h1:=Az _ _ hf.2.1;have h2:=hf.2.2;simp only[exA,uQ]at h1 h2;rcases hl with hl | ⟨hl,ht⟩
   ·omega
   ·rw[ht]at h2;rcases h2 with h2 | h2
    ·cases h2
    ·omega
  ·rename_i hl;simp only[Bool.or_eq_true,Bool.and_eq_true,decide_eq_true_eq,Bool.not_eq_true',not_or,not_and,Bool.not_eq_false]at hl;have hcn:=aCp fy.cust (c:=97) (.inl rfl);split
   ·rename_i ht;simp only[Bool.and_eq_true,Bool.not_eq_true']at ht;have hlen:y.parts.length+1<=32:=by rw[ht.1]at hn;simpa using hn
    have hws:∀ w∈qN y.parts++[⟨#[97]⟩],bW w=true:=by
     intro w hmw;rcases List.mem_append.1 hmw with hmw | hmw
     ·exact hw w hmw
     ·rw[List.mem_singleton.1 hmw];exact nI (aDa (.inl rfl))
    have hl2:(qN y.parts++[(⟨#[97]⟩:aC)]).length=y.parts.length+1:=by rw[List.length_append,uQ];rfl
    rw[aBt hy hcn hws aB,aBt hx hcn hws aB];constructor
    ·rw[A8];exact⟨(aBn fy.cust.part (.inl rfl)).2,hm _,.inl ht.1⟩
    ·rw[Bool.eq_false_iff];intro hf;rw[A8]at hf;have h2:=hf.2.2;rw[ht.2]at h2;rcases h2 with h2 | h2
     ·cases h2
     ·dsimp only at h2;rw[hl2]at h2;have:=hl.2;rw[ht.2]at this;rcases Nat.lt_or_ge x.parts.length y.parts.length with hlt | hlt
      ·exact absurd (this hlt) aK
      ·omega
   ·rename_i ht;simp only[Bool.and_eq_true,Bool.not_eq_true',not_and,Bool.not_eq_false]at ht;cases hb:Hu x.parts y.parts with
    | none =>
     have hcv:=aHm _ _ aB hb;exact absurd ⟨hc,aB,hl.2,ht,hcv⟩ hne
    | some ws =>
     obtain⟨h1,h2,h3,h4⟩:=aHl _ _ ws fx.parts fy.parts hb;dsimp only;rw[aBt hy hcn h2 aB,aBt hx hcn h2 aB];constructor
     ·rw[A8];exact⟨(aBn fy.cust.part (.inl rfl)).2,h3,.inr h1⟩
     ·rw[Bool.eq_false_iff];intro hf;rw[A8]at hf;have:=hf.2.1;dsimp only at this;rw[h4]at this;cases this
theorem aLs{x y:Pat}(hx:lK x)(hy:lK y)(h:∀ a:Adr,mG y a=true->mG x a=true):BC x y=true:=by
 cases hc:BC x y
 ·obtain⟨h1,h2⟩:=aHn (UB hx) (UB hy) hc;unfold qO at h1 h2;rw[UB hy]at h1;rw[UB hx]at h2;have h1:(qJ (Hy x y)&&mG y (dB (Hy x y)).1)=true:=h1;have h2:(qJ (Hy x y)&&mG x (dB (Hy x y)).1)=false:=h2;rw[Bool.and_eq_true]at h1;rw[h1.1,h _ h1.2]at h2;cases h2
 ·rfl
def aHo(z:Option Pat)(a:Adr):Bool:=match z with
 | some z=>mG z a
 | none=>false
theorem aLt{x y:Pat}(hx:lK x)(hy:lK y)(a:Adr):aHo (jL x y) a=(mG x a&&mG y a):=by
 cases h:jL x y with
 | none=>exact (aHe hx hy h a).symm
 | some z=>exact (Hg hx hy h).2 a
theorem aLu{z:Pat}(hz:lK z):(jq z).size≠0:=by
 intro h;have hc:=UB hz;have hd:jq z=⟨#[]⟩:=fK (List.eq_nil_of_length_eq_zero uf);rw[hd]at hc;have:dI ⟨#[]⟩=none:=by
  unfold dI;rw[show splitB 47 ⟨#[]⟩=[⟨#[]⟩] from rfl,BD];have:iT ⟨#[]⟩=false:=by
   unfold iT bU bW;rw[Lib.toList_data];rfl
  rw[this];simp
 rw[this]at hc;cases hc
section
variable {α:Type}
variable [DecidableEq α]
theorem aEv{a b:List α}(h:ja a b=none):a ≠ []/\b ≠ []/\∀ x,¬ (x∈a/\x∈b):=by
 have ha:a ≠ []:=by rintro rfl;rw[UF]at h;cases h
 have hb:b ≠ []:=by rintro rfl;rw[UG]at h;cases h
 rw[UH ha hb]at h;split at h
 ·rename_i he;refine⟨ha,hb,fun x hx=>?_⟩;have:x∈(a.filter fun x=>decide (x∈b)):=List.mem_filter.2 ⟨hx.1,by simpa using hx.2⟩;rw[he]at this;cases this
 ·cases h
def FX(a b:List α):Bool:=b.isEmpty||(!a.isEmpty&&a.all fun x=>b.contains x)
theorem aBu(a b:List α):FX a b=true↔b=[]\/(a ≠ []/\∀ x∈a,x∈b):=by
 unfold FX;simp only[Bool.or_eq_true,Bool.and_eq_true,List.isEmpty_iff,Bool.not_eq_true',List.all_eq_true,List.contains_iff_mem];constructor
 ·rintro (h | ⟨h1,h2⟩)
  ·exact .inl h
  ·exact .inr ⟨(by intro e;rw[e]at h1;cases h1),h2⟩
 ·rintro (h | ⟨h1,h2⟩)
  ·exact .inl h
  ·exact .inr ⟨(by cases a;exact absurd rfl h1;rfl),h2⟩
theorem aHp{a b s c:List α}(h:ja a b=some s):FX c s=(FX c a&&FX c b):=by
 obtain⟨h1,h2,_⟩:=BJ h;rw[Bool.eq_iff_iff,Bool.and_eq_true,aBu,aBu,aBu];have hm:s ≠ []->∀ x,x∈s↔(a=[]\/x∈a)/\(b=[]\/x∈b):=fun hs x=>by
  exact aHq
 constructor
 ·rintro (h | ⟨h3,h4⟩)
  ·obtain⟨h5,h6⟩:=h2.1 h;exact⟨.inl h5,.inl h6⟩
  ·obtain⟨x,hx⟩:=List.exists_mem_of_ne_nil _ h3;have hs:s ≠ []:=List.ne_nil_of_mem (h4 x hx);refine⟨?_,?_⟩
   ·by_cases ha:a=[]
    ·exact .inl ha
    ·exact .inr ⟨h3,fun y hy=>(((hm hs y).1 (h4 y hy)).1).resolve_left ha⟩
   ·by_cases hb:b=[]
    ·exact .inl hb
    ·exact .inr ⟨h3,fun y hy=>(((hm hs y).1 (h4 y hy)).2).resolve_left hb⟩
 ·rintro⟨ha,hb⟩;by_cases hs:s=[]
  ·exact .inl hs
  ·right;have hc:c ≠ []:=by
    rcases ha with rfl | ⟨h,_⟩
    ·rcases hb with rfl | ⟨h,_⟩
     ·exact absurd (h2.2 ⟨rfl,rfl⟩) hs
     ·exact h
    ·exact h
   refine⟨hc,fun x hx=>(hm hs x).2 ⟨?_,?_⟩⟩
   ·rcases ha with h | ⟨_,h⟩
    ·exact .inl h
    ·exact .inr (h x hx)
   ·rcases hb with h | ⟨_,h⟩
    ·exact .inl h
    ·exact .inr (h x hx)
theorem aHr{a b c:List α}(h1:FX c a=true)(h2:FX c b=true):∃ s,ja a b=some s:=by
 cases h:ja a b with
 | some s=>exact⟨s,rfl⟩
 | none =>
  obtain⟨ha,hb,hx⟩:=aEv h;rw[aBu]at h1 h2;rcases h1 with h1 | ⟨hc,h1⟩
  ·exact absurd h1 ha
  ·rcases h2 with h2 | ⟨_,h2⟩
   ·exact absurd h2 hb
   ·obtain⟨x,hxc⟩:=List.exists_mem_of_ne_nil _ hc;exact absurd ⟨h1 x hxc,h2 x hxc⟩ (hx x)
end
def aBo:Pat:=⟨⟨2,⟨#[]⟩⟩,[],true⟩
theorem aDe:lK aBo:=⟨.inr ⟨rfl,rfl⟩,(by intro p hp;cases hp),aK⟩
theorem aLv:jq aBo=⟨#[42,47,42,42]⟩:=fK (by
 rw[yD,yB,qQ]
 rfl)
theorem aEw:dI ⟨#[42,47,42,42]⟩=some aBo:=by rw[<-aLv];exact UB aDe
theorem aHs(a:Adr):mG aBo a=true:=by
 unfold mG aBo;rw[Ff];simp[eH]
def pmA(p:aC)(a:Adr):Bool:=aHo (dI (nN p)) a
theorem aBi{p:aC}(h:gY p=true):∃ x,dI (nN p)=some x/\lK x:=by
 unfold nN;by_cases h0:p.size=0
 ·rw[if_pos h0];exact⟨_,aEw,aDe⟩
 ·rw[if_neg h0];obtain⟨x,hx⟩:=yE h h0;exact⟨x,hx,rZ hx⟩
theorem aDf{p q:aC}(hp:gY p=true)(hq:gY q=true)(a:Adr):(match mO p q with | some r=>pmA r a | none=>false)=(pmA p a&&pmA q a):=by
 have h0:∀ s:aC,s.size=0->pmA s a=true:=fun s hs=>by
  unfold pmA nN;rw[if_pos hs,aEw];exact aHs a
 by_cases h1:p.size=0
 ·have e1:mO p q=some q:=by unfold mO;rw[if_pos h1]
  rw[e1,h0 p h1,Bool.true_and]
 ·by_cases h2:q.size=0
  ·have e1:mO p q=some p:=by unfold mO;rw[if_neg h1,if_pos h2]
   rw[e1,h0 q h2,Bool.and_true]
  ·obtain⟨x,hx⟩:=yE hp h1;obtain⟨y,hy⟩:=yE hq h2;have fx:=rZ hx;have fy:=rZ hy;have e:∀(s:aC)(z:Pat),s.size≠0->dI s=some z->pmA s a=mG z a:=fun s z hs hz=>by
    unfold pmA nN;rw[if_neg hs,hz];rfl
   rw[Hz h1 h2 hx hy,e p x h1 hx,e q y h2 hy,<-aLt fx fy];cases h:jL x y with
   | none=>rfl
   | some z =>
    have fz:=(Hg fx fy h).1;exact e (jq z) z (aLu fz) (UB fz)
def aBj(q p:aC):Bool:=match dI (nN q),dI (nN p) with
 | some x,some y=>BC x y
 | _,_=>false
theorem aCd{q p:aC}(hq:gY q=true)(hp:gY p=true):aBj q p=true↔∀ a,pmA p a=true->pmA q a=true:=by
 obtain⟨x,hx,fx⟩:=aBi hq;obtain⟨y,hy,fy⟩:=aBi hp;unfold aBj pmA;rw[hx,hy];exact⟨fun h a ha=>aLp fx fy h a ha,fun h=>aLs fx fy h⟩
theorem aLw{p:aC}(hp:gY p=true):∃ a,pmA p a=true:=by
 obtain⟨x,hx,fx⟩:=aBi hp;exact⟨exA x,by unfold pmA;rw[hx];exact aDc fx⟩
def aCe(a:List Int):List Int:=if a.isEmpty then (List.range 64).map Int.ofNat else a
def F6(a b:List Int):Bool:=b.isEmpty||(aCe a).all fun x=>b.contains x
theorem aCf(a b:List Int):F6 a b=true↔b=[]\/∀ x∈aCe a,x∈b:=by
 unfold F6;simp only[Bool.or_eq_true,List.isEmpty_iff,List.all_eq_true,List.contains_iff_mem]
theorem aHt(a:List Int):∃ x,x∈aCe a:=by
 unfold aCe;cases a with
 | nil=>exact⟨0,aK⟩
 | cons x l=>exact⟨x,aH⟩
theorem aLx{a b s c:List Int}(h:ja a b=some s):F6 c s=(F6 c a&&F6 c b):=by
 obtain⟨h1,h2,_⟩:=BJ h;rw[Bool.eq_iff_iff,Bool.and_eq_true,aCf,aCf,aCf];have hm:s ≠ []->∀ x,x∈s↔(a=[]\/x∈a)/\(b=[]\/x∈b):=fun hs x=>by
  exact aHq
 constructor
 ·rintro (h | h4)
  ·obtain⟨h5,h6⟩:=h2.1 h;exact⟨.inl h5,.inl h6⟩
  ·obtain⟨x,hx⟩:=aHt c;have hs:s ≠ []:=List.ne_nil_of_mem (h4 x hx);refine⟨?_,?_⟩
   ·by_cases ha:a=[]
    ·exact .inl ha
    ·exact .inr fun y hy=>(((hm hs y).1 (h4 y hy)).1).resolve_left ha
   ·by_cases hb:b=[]
    ·exact .inl hb
    ·exact .inr fun y hy=>(((hm hs y).1 (h4 y hy)).2).resolve_left hb
 ·rintro⟨ha,hb⟩;by_cases hs:s=[]
  ·exact .inl hs
  ·right;refine fun x hx=>(hm hs x).2 ⟨?_,?_⟩
   ·rcases ha with h | h
    ·exact .inl h
    ·exact .inr (h x hx)
   ·rcases hb with h | h
    ·exact .inl h
    ·exact .inr (h x hx)
theorem aLy{a b c:List Int}(h1:F6 c a=true)(h2:F6 c b=true):∃ s,ja a b=some s:=by
 cases h:ja a b with
 | some s=>exact⟨s,rfl⟩
 | none =>
  obtain⟨ha,hb,hx⟩:=aEv h;rw[aCf]at h1 h2;rcases h1 with h1 | h1
  ·exact absurd h1 ha
  ·rcases h2 with h2 | h2
   ·exact absurd h2 hb
   ·obtain⟨x,hxc⟩:=aHt c;exact absurd ⟨h1 x hxc,h2 x hxc⟩ (hx x)
def aBv(a b:aY):Bool:=decide (a.till<=a.fr)||(decide (b.fr<=a.fr/\a.till<=b.till)&&aBj b.pat a.pat&&FX a.cl b.cl&&FX a.co b.co&&F6 a.si b.si)
def IB(a b:aY):Bool:=aBv a b&&(decide (a.till<=a.fr)||decide (b.us=0\/(0<a.us/\a.us<=b.us)))
theorem aDg(a b:aY):IB a b=true↔a.till<=a.fr\/((b.fr<=a.fr/\a.till<=b.till)/\aBj b.pat a.pat=true/\FX a.cl b.cl=true/\FX a.co b.co=true/\F6 a.si b.si=true/\(b.us=0\/(0<a.us/\a.us<=b.us))):=by
 unfold IB aBv;simp only[Bool.and_eq_true,Bool.or_eq_true,decide_eq_true_eq];constructor
 ·rintro⟨h1 | ⟨⟨⟨⟨h1,h2⟩,h3⟩,h4⟩,h5⟩,h6 | h6⟩
  ·exact .inl h1
  ·exact .inl h1
  ·exact .inl h6
  ·exact .inr ⟨h1,h2,h3,h4,h5,h6⟩
 ·rintro (h | ⟨h1,h2,h3,h4,h5,h6⟩)
  ·exact⟨.inl h,.inl h⟩
  ·exact⟨.inr ⟨⟨⟨⟨h1,h2⟩,h3⟩,h4⟩,h5⟩,.inr h6⟩
theorem aLz{a b c:aY}(ha:jc a)(hb:jc b)(hc:jc c):IB c (iH a b)=(IB c a&&IB c b):=by
 rw[Bool.eq_iff_iff,Bool.and_eq_true,aDg,aDg,aDg];by_cases he:c.till<=c.fr
 ·exact⟨fun _=>⟨.inl he,.inl he⟩,fun _=>.inl he⟩
 have c0:=hc.fr0;unfold iH;cases h:rf a b with
 | some s =>
  obtain⟨h1,h2,h3,h4,h5,h6,h7,h8⟩:=UJ.1 h;have hs:=(UK ha hb h).1;rw[Option.getD_some,aHp h2,aHp h3,aLx h4,Bool.and_eq_true,Bool.and_eq_true,Bool.and_eq_true];have hp:aBj s.pat c.pat=true↔aBj a.pat c.pat=true/\aBj b.pat c.pat=true:=by
   rw[aCd hs.pat hc.pat,aCd ha.pat hc.pat,aCd hb.pat hc.pat];have hm:∀ x,pmA s.pat x=(pmA a.pat x&&pmA b.pat x):=fun x=>by
    have:=aDf ha.pat hb.pat x;rw[h1]at this;exact this
   constructor
   ·intro h;refine⟨fun x hx=>?_,fun x hx=>?_⟩
    ·have:=h x hx;rw[hm,Bool.and_eq_true]at this;exact this.1
    ·have:=h x hx;rw[hm,Bool.and_eq_true]at this;exact this.2
   ·rintro⟨k1,k2⟩ x hx;rw[hm,k1 x hx,k2 x hx];rfl
  rw[hp];have u0:=ha.us0;have u1:=hb.us0;have hu:(s.us=0\/(0<c.us/\c.us<=s.us))↔(a.us=0\/(0<c.us/\c.us<=a.us))/\(b.us=0\/(0<c.us/\c.us<=b.us)):=by
   rw[h8];unfold fF;split <;> omega
  rw[hu];constructor
  ·rintro (h | ⟨k1,⟨k2,k3⟩,⟨k4,k5⟩,⟨k6,k7⟩,⟨k8,k9⟩,kA,kB⟩)
   ·exact absurd h he
   ·exact⟨.inr ⟨aB,k2,k4,k6,k8,kA⟩,.inr ⟨aB,k3,k5,k7,k9,kB⟩⟩
  ·rintro⟨h | ⟨k1,k2,k4,k6,k8,kA⟩,h' | ⟨j1,k3,k5,k7,k9,kB⟩⟩
   ·exact .inl h
   ·exact .inl h
   ·exact .inl h'
   ·exact .inr ⟨aB,⟨k2,k3⟩,⟨k4,k5⟩,⟨k6,k7⟩,⟨k8,k9⟩,kA,kB⟩
 | none =>
  rw[Option.getD_none];constructor
  ·rintro (h | ⟨⟨_,k⟩,_⟩)
   ·exact absurd h he
   ·have:ed.till=0:=rfl;omega
  ·rintro⟨h | ⟨k1,k2,k4,k6,k8,kA⟩,h' | ⟨j1,k3,k5,k7,k9,kB⟩⟩
   ·exact absurd h he
   ·exact absurd h he
   ·exact absurd h' he
   ·exfalso;obtain⟨l1,e1⟩:=aHr k4 k5;obtain⟨l2,e2⟩:=aHr k6 k7;obtain⟨l3,e3⟩:=aLy k8 k9;have hp:∃ r,mO a.pat b.pat=some r:=by
     cases hpm:mO a.pat b.pat with
     | some r=>exact⟨r,rfl⟩
     | none =>
      obtain⟨x,hx⟩:=aLw hc.pat;have:=aDf ha.pat hb.pat x;rw[hpm,(aCd ha.pat hc.pat).1 k2 x hx,(aCd hb.pat hc.pat).1 k3 x hx]at this;cases this
    obtain⟨r,e0⟩:=hp;have:rf a b=some ⟨max a.fr b.fr,min a.till b.till,r,l1,l2,l3,fF a.us b.us⟩:=UJ.2 ⟨e0,e1,e2,e3,aB,rfl,rfl,rfl⟩;rw[h]at this;cases this
theorem aDh{p:aC}(hp:gY p=true){s:aC}(hs:qJ s=true):qO (nN p) s=pmA p (dB s).1:=by
 obtain⟨x,hx,_⟩:=aBi hp;unfold qO pmA;rw[hx];show (qJ s&&mG x (dB s).1)=mG x (dB s).1;rw[hs,Bool.true_and]
theorem VE{c:aY}(hc:jc c)(a:dN):fM c a=true↔uz a=true/\(c.fr<=a.lo/\a.hi<c.till)/\pmA c.pat (dB a.addr).1=true/\bG c.cl a.client=true/\bG c.co a.country=true/\bG c.si a.site=true:=by
 unfold fM;rw[(mP c).2 hc];simp only[Bool.true_and,Bool.and_eq_true,decide_eq_true_eq];have hv:uz a=true->qJ a.addr=true:=fun h=>by
  unfold uz at h;simp only[Bool.and_eq_true]at h;exact h.1.1.1.1
 constructor
 ·rintro⟨⟨⟨⟨⟨h1,h2⟩,h3⟩,h4⟩,h5⟩,h6⟩;rw[aDh hc.pat (hv h1)]at h3;exact⟨h1,h2,h3,h4,h5,h6⟩
 ·rintro⟨h1,h2,h3,h4,h5,h6⟩;rw[<-aDh hc.pat (hv h1)]at h3;exact⟨⟨⟨⟨⟨h1,h2⟩,h3⟩,h4⟩,h5⟩,h6⟩
theorem aEx{a:dN}(h:uz a=true):0<=a.lo/\a.lo<=a.hi/\a.hi<=1099511627776/\bU a.client=true/\iV a.country=true/\jb a.site=true/\qJ a.addr=true:=by
 unfold uz at h;simp only[Bool.and_eq_true,decide_eq_true_eq]at h;exact⟨h.2.1,h.2.2.1,h.2.2.2,h.1.1.1.2,h.1.1.2,h.1.2,h.1.1.1.1⟩
theorem aEy{α:Type} [DecidableEq α] {a b:List α} (h:ja a b=none) (x:α):(bG a x&&bG b x)=false:=by
 obtain⟨ha,hb,hx⟩:=aEv h;unfold bG;have ea:a.isEmpty=false:=BI;have eb:b.isEmpty=false:=by cases b;exact absurd rfl hb;rfl
 rw[ea,eb,Bool.false_or,Bool.false_or];cases h1:a.contains x
 ·rfl
 ·cases h2:b.contains x
  ·rfl
  ·exact absurd ⟨List.contains_iff_mem.1 h1,List.contains_iff_mem.1 h2⟩ (hx x)
theorem aMa{a b:aY}(ha:jc a)(hb:jc b)(x:dN):fM (iH a b) x=(fM a x&&fM b x):=by
 rw[Bool.eq_iff_iff,Bool.and_eq_true,VE (UL ha hb),VE ha,VE hb];unfold iH;cases h:rf a b with
 | some s =>
  obtain⟨h1,h2,h3,h4,h5,h6,h7,h8⟩:=UJ.1 h;have hm:=aDf ha.pat hb.pat (dB x.addr).1;rw[h1]at hm;have hm:pmA s.pat (dB x.addr).1=(pmA a.pat (dB x.addr).1&&pmA b.pat (dB x.addr).1):=hm;rw[Option.getD_some,hm,(BJ h2).1,(BJ h3).1,(BJ h4).1];simp only[Bool.and_eq_true];constructor
  ·rintro⟨k1,k2,⟨k3,k4⟩,⟨k5,k6⟩,⟨k7,k8⟩,⟨k9,kA⟩⟩;exact⟨⟨k1,aB,k3,k5,k7,k9⟩,⟨k1,aB,k4,k6,k8,kA⟩⟩
  ·rintro⟨⟨k1,k2,k3,k5,k7,k9⟩,⟨_,j2,k4,k6,k8,kA⟩⟩;exact⟨k1,aB,⟨k3,k4⟩,⟨k5,k6⟩,⟨k7,k8⟩,⟨k9,kA⟩⟩
 | none =>
  rw[Option.getD_none];constructor
  ·rintro⟨k1,k2,_⟩;have:=aEx k1;have e:ed.till=0:=rfl;omega
  ·rintro⟨⟨k1,k2,k3,k5,k7,k9⟩,⟨_,j2,k4,k6,k8,kA⟩⟩;exfalso;have hm:=aDf ha.pat hb.pat (dB x.addr).1;rw[k3,k4]at hm;have t:=aEx k1;cases hp:mO a.pat b.pat with
   | none=>rw[hp]at hm;cases hm
   | some p =>
    cases h1:ja a.cl b.cl with
    | none=>have:=aEy h1 x.client;rw[k5,k6]at this;cases this
    | some l1 =>
     cases h2:ja a.co b.co with
     | none=>have:=aEy h2 x.country;rw[k7,k8]at this;cases this
     | some l2 =>
      cases h3:ja a.si b.si with
      | none=>have:=aEy h3 x.site;rw[k9,kA]at this;cases this
      | some l3 =>
       have:rf a b=some ⟨max a.fr b.fr,min a.till b.till,p,l1,l2,l3,fF a.us b.us⟩:=UJ.2 ⟨hp,h1,h2,h3,aB,rfl,rfl,rfl⟩;rw[h]at this;cases this
theorem aMb{a:aY}(ha:jc a):IB a a=true:=by
 rw[aDg];by_cases h:a.till<=a.fr
 ·exact .inl h
 ·right;have:=ha.us0;refine⟨⟨aB,aB⟩,(aCd ha.pat ha.pat).2 fun x hx=>hx,?_,?_,?_,aB⟩
  ·rw[aBu];by_cases h:a.cl=[]
   ·exact .inl h
   ·exact .inr ⟨h,fun x hx=>hx⟩
  ·rw[aBu];by_cases h:a.co=[]
   ·exact .inl h
   ·exact .inr ⟨h,fun x hx=>hx⟩
  ·rw[aCf];by_cases h:a.si=[]
   ·exact .inl h
   ·right;intro x hx;unfold aCe at hx;have:a.si.isEmpty=false:=by cases h2:a.si;exact absurd h2 h;rfl
    rw[this]at hx;exact hx
theorem aMc{a b:aY}(ha:jc a)(hb:jc b):IB (iH a b) a=true/\IB (iH a b) b=true:=by
 have hm:=UL ha hb;have:=aLz ha hb hm;rw[aMb hm]at this;have:=this.symm;rw[Bool.and_eq_true]at this;exact this
theorem aBk{α:Type} [DecidableEq α] (l:List α) (x:α):bG l x=true↔l=[]\/x∈l:=by
 unfold bG;rw[Bool.or_eq_true,List.isEmpty_iff,List.contains_iff_mem]
section
variable {w:World} {g:Nat} {fr till us:Int} {pat:aC} {A B S:Option Addr} {na ca nb cb ns cs:Nat}
end
def aCg(na nb ns:Nat)(pat:aC)(cl co:List aC):Bool:=decide (na<=40)&&decide (nb<=40)&&decide (ns<=70)&&decide (pat.size<=1000)&&cl.all (fun x=>decide (x.size<=100))&&co.all (fun x=>decide (x.size<=100))
theorem aDi{α:Type}{p:α->Bool}{l:List α}{k:Nat}{x:α}(h:(l.take k).all p=true)(hx:l[k]? = some x)(hp:p x=true):(l.take (k+1)).all p=true:=by
 rw[List.take_add_one,hx];simp[h,hp]
theorem aDj{α:Type}{p:α->Bool}{l:List α}{k:Nat}{x:α}(hx:l[k]? = some x)(hp:p x=false):l.all p=false:=by
 exact aHu
theorem aMd(fr till us:Int)(pat:aC)(A B S:Option Addr)(na ca nb cb ns cs:Nat)(cl co:List aC)(w:World)(hA:aI w 1 A na (cl.map .string))(hB:aI w 1 B nb (co.map .string)) :
  Calls prog 9 #[.agg #[.int .i64 fr,.int .i64 till,.string pat,.slice A na ca,.slice B nb cb,.slice S ns cs,.int .i64 us]] w (Ret w (.bool (aCg na nb ns pat cl co))):=by
 have hna:cl.length=na:=jK;have hnb:co.length=nb:=Ag;obtain⟨V,hV⟩:∃ V,V=aCg na nb ns pat cl co:=⟨_,rfl⟩;rw[<-hV];unfold aCg at hV;have HA:=aA hA;have HB:=aA hB;have HNA:=aA hna;have HNB:=aA hnb;clear hA hB hna hnb;by_cases h1:na<=40;rotate_left
 ·obtain rfl:V=false:=by rw[hV];simp[h1]
  have d1:decide ((40:Int)<(na:Int))=true:=decide_eq_true aB;exact aDk
 have d1:decide ((40:Int)<(na:Int))=false:=decide_eq_false aB;by_cases h2:nb<=40;rotate_left
 ·obtain rfl:V=false:=by rw[hV];simp[h2]
  have d2:decide ((40:Int)<(nb:Int))=true:=decide_eq_true aB;exact aDk
 have d2:decide ((40:Int)<(nb:Int))=false:=decide_eq_false aB;by_cases h3:ns<=70;rotate_left
 ·obtain rfl:V=false:=by rw[hV];simp[h3]
  have d3:decide ((70:Int)<(ns:Int))=true:=decide_eq_true aB;exact aDk
 have d3:decide ((70:Int)<(ns:Int))=false:=decide_eq_false aB;by_cases h4:pat.size<=1000;rotate_left
 ·obtain rfl:V=false:=by rw[hV];simp[h4]
  have d4:decide ((1000:Int)<(pat.size:Int))=true:=decide_eq_true aB;exact aDk
 have d4:decide ((1000:Int)<(pat.size:Int))=false:=decide_eq_false aB;have hv2:V=(cl.all (fun x=>decide (x.size<=100))&&co.all (fun x=>decide (x.size<=100))):=by rw[hV];simp[h1,h2,h3,h4]
 have HV:=aA hv2;clear hV hv2;go_enter func9,ntmps9;go_wp2;have hX0:aX (w.alloc (.cells #[.int .i64 fr,.int .i64 till,.string pat,.slice A na ca,.slice B nb cb,.slice S ns cs,.int .i64 us] 27)) w.heap.size fr till pat A na ca B nb cb S ns cs us:=World.alloc_heap_new _ _;go_loopw [3] (fun vi wr=>∃ k:Nat,vi=.int .i64 k/\k<=na/\Hid ((cl.take k).all (fun x=>decide (x.size<=100))=true)/\aX wr w.heap.size fr till pat A na ca B nb cb S ns cs us/\aF w wr) (fun i _=>na-(intOf i).toNat)
 case atStart=>exact⟨0,rfl,Nat.zero_le _,aA aH,hX0,aU (Below.refl _ _) _⟩
 case round =>
  clear hX0;obtain⟨k,rfl,hk,HK,hX,hbr⟩:=hrel;obtain⟨x0,x1,x2,x3,x4,x5,x6⟩:=hX.facts;by_cases hlt:k<na
  ·obtain⟨x,hx⟩:∃ x,cl[k]? = some x:=⟨_,List.getElem?_eq_getElem (by have:=HNA.out;omega)⟩;obtain⟨b,o,rfl,hcell⟩:=(HA.out.keep hbr).2 aB;have hc1:wr.cell? ⟨b,o+k,none⟩=some (.string x):=hcell k _ gB;have hk0:(0:Int)<=(k:Int):=aB;have hk1:(k:Int)<(na:Int):=aB;by_cases hs:x.size<=100
   ·have HK2:Hid ((cl.take (k+1)).all (fun x=>decide (x.size<=100))=true):=aA (aDi HK.out hx (by simpa using hs));have d5:decide ((100:Int)<(x.size:Int))=false:=decide_eq_false aB;clear hcell hx HK;go_wp2;exact⟨⟨k+1,bg,aB,HK2,hX,hbr⟩,dD⟩
   ·obtain rfl:V=false:=by rw[HV.out,aDj hx (by simpa using hs)];rfl
    have d5:decide ((100:Int)<(x.size:Int))=true:=decide_eq_true aB;clear hcell hx HK;go_wp2;go_ret;exact⟨rfl,hbr⟩
  ·obtain rfl:k=na:=aB;have hall:cl.all (fun x=>decide (x.size<=100))=true:=by
    have:=HK.out
    rwa [List.take_of_length_le (by have:=HNA.out;omega)]at this
   have hv3:V=co.all (fun x=>decide (x.size<=100)):=aEz;have HV2:=aA hv3;clear hall hv3 HK HV;go_wp2;clear x0 x1 x2 x3 x4 x5 x6;obtain⟨wo,rfl⟩:∃ wo:World,wo=wr:=⟨_,rfl⟩;go_loopw [4] (fun vi wz=>∃ j:Nat,vi=.int .i64 j/\j<=nb/\Hid ((co.take j).all (fun x=>decide (x.size<=100))=true)/\aX wz w.heap.size fr till pat A k ca B nb cb S ns cs us/\aF w wz) (fun i _=>nb-(intOf i).toNat)
   case atStart=>exact⟨0,rfl,Nat.zero_le _,aA aH,hX,hbr⟩
   case round =>
    clear hX hbr;obtain⟨j,rfl,hj,HJ,hX,hbr⟩:=hrel;obtain⟨x0,x1,x2,x3,x4,x5,x6⟩:=hX.facts;by_cases hlt2:j<nb
    ·obtain⟨x,hx⟩:∃ x,co[j]? = some x:=⟨_,List.getElem?_eq_getElem (by have:=HNB.out;omega)⟩;obtain⟨b,o,rfl,hcell⟩:=(HB.out.keep hbr).2 aB;have hc1:wr.cell? ⟨b,o+j,none⟩=some (.string x):=hcell j _ gB;have hj0:(0:Int)<=(j:Int):=aB;have hj1:(j:Int)<(nb:Int):=aB;by_cases hs:x.size<=100
     ·have HJ2:Hid ((co.take (j+1)).all (fun x=>decide (x.size<=100))=true):=aA (aDi HJ.out hx (by simpa using hs));have d5:decide ((100:Int)<(x.size:Int))=false:=decide_eq_false aB;clear hcell hx HJ;go_wp2;exact⟨⟨j+1,bg,aB,HJ2,hX,hbr⟩,dD⟩
     ·obtain rfl:V=false:=by rw[HV2.out,aDj hx (by simpa using hs)]
      have d5:decide ((100:Int)<(x.size:Int))=true:=decide_eq_true aB;clear hcell hx HJ;go_wp2;go_ret;exact⟨rfl,hbr⟩
    ·obtain rfl:j=nb:=aB;have hall:co.all (fun x=>decide (x.size<=100))=true:=by
      have:=HJ.out
      rwa [List.take_of_length_le (by have:=HNB.out;omega)]at this
     obtain rfl:V=true:=by rw[HV2.out,hall]
     go_wp2;go_ret;exact⟨rfl,hbr⟩
theorem aMe(a:dN)(w:World):Calls prog 26 #[dN.val a] w (Ret w (.bool (decide (a.addr.size<=5000)&&decide (a.client.size<=5000)&&decide (a.country.size<=5000)))):=by
 obtain⟨ad,cl,co,si,lo,hi⟩:=a;unfold dN.val;dsimp only;by_cases h1:ad.size<=5000
 ·have d1:decide ((ad.size:Int)<=5000)=true:=decide_eq_true aB;by_cases h2:cl.size<=5000
  ·have d2:decide ((cl.size:Int)<=5000)=true:=decide_eq_true aB;by_cases h3:co.size<=5000
   ·have d3:decide ((co.size:Int)<=5000)=true:=decide_eq_true aB;rw[decide_eq_true h1,decide_eq_true h2,decide_eq_true h3];exact aDl
   ·have d3:decide ((co.size:Int)<=5000)=false:=decide_eq_false aB;rw[decide_eq_true h1,decide_eq_true h2,decide_eq_false h3];exact aDl
  ·have d2:decide ((cl.size:Int)<=5000)=false:=decide_eq_false aB;rw[decide_eq_true h1,decide_eq_false h2];exact aDl
 ·have d1:decide ((ad.size:Int)<=5000)=false:=decide_eq_false aB;rw[decide_eq_false h1];exact aDl
end Go.Proofs.YtlkbkclnbppigaaGreatDoor
