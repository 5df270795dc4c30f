/- Plain: what patterns match, cover and have in common; the string of a pattern. -/
import Derived.Test.YtlkbkclnbppigaaGreatDoorIZ16
namespace Go.Proofs.YtlkbkclnbppigaaGreatDoor
open Tryz
open Go.RowKit Go.Sort
set_option linter.unusedVariables false
set_option linter.unusedSimpArgs false
set_option maxRecDepth 100000
structure lK(x:Pat):Prop where
 cust:oP x.cust
 parts:∀ p∈x.parts,gU p
 num:x.parts.length+(if x.tail then 1 else 0)<=32
theorem extract_data(s:aC)(i:Nat):(s.extract i s.size).data.toList=s.data.toList.drop i:=by
 rw[Lib.extract_to_end]
theorem G8(s:aC):(s.extract 0 1).data.toList=s.data.toList.take 1:=by
 rw[Lib.extract_data];simp
theorem uq{w:aC}(h:bW w=true):dG w=⟨0,w⟩:=by
 obtain⟨h1,_⟩:=xP h;have h42:=(rP h).2.2.2.2.1;unfold dG;split
 ·rfl
 ·rw[if_pos];rw[Lib.toList_data,G8];obtain⟨b,l,hl⟩:=List.exists_cons_of_ne_nil h1;rw[hl]at h42 ⊢;simp only[List.mem_cons,not_or]at h42;simp only[List.take_succ_cons,List.take_zero,Bool.not_eq_true',beq_eq_false_iff_ne,ne_eq,List.cons.injEq,and_true];exact fun e=>h42.1 e.symm
theorem o8{w:aC}(r:List UInt8)(h:w.data.toList=42 :: r):dG w=if r.isEmpty then ⟨2,⟨#[]⟩⟩ else ⟨1,⟨r.toArray⟩⟩:=by
 have hz:w.size=r.length+1:=by rw[jY,h];rfl
 have e1:(w.extract 0 1).toList=[42]:=by rw[Lib.toList_data,G8,h];rfl
 have e2:(w.extract 1 w.size).data.toList=r:=by rw[extract_data,h];rfl
 have e3:w.extract 1 w.size=⟨r.toArray⟩:=fK (by rw[e2]);unfold dG;rw[if_neg aB,e1,e3,Lib.toList_data];simp only[BEq.rfl,Bool.not_true,Bool.false_eq_true,if_false];cases r <;> rfl
theorem Tn:gU ⟨2,⟨#[]⟩⟩:=.inr (.inr ⟨rfl,rfl⟩)
theorem Tq{w:aC}(h:iT w=true):oP (dG w):=by
 unfold iT at h;rw[Bool.or_eq_true,Lib.toList_data,beq_iff_eq]at h;rcases h with h | h
 ·rw[o8 [] h];exact .inr ⟨rfl,rfl⟩
 ·rw[uq (nI h)];exact .inl ⟨rfl,h⟩
theorem G9{l:List UInt8}(h:Lib.hasPrefix l [42,46]=true):∃ r,l=42 :: 46 :: r:=by
 unfold Lib.hasPrefix at h;rw[List.isPrefixOf_iff_prefix]at h;obtain⟨r,hr⟩:=h;exact⟨r,hr.symm⟩
theorem Ha{w:aC}(h:kP w=true):gU (dG w):=by
 unfold kP at h;rw[Bool.or_eq_true,Bool.or_eq_true,Lib.toList_data,beq_iff_eq]at h;rcases h with (h | h) | h
 ·rw[o8 [] h];exact Tn
 ·rw[uq h];exact .inl ⟨rfl,h⟩
 ·simp only[Bool.and_eq_true,decide_eq_true_eq]at h;obtain⟨⟨h1,h2⟩,h3⟩:=h;obtain⟨r,hr⟩:=G9 h2;rw[o8 (46 :: r) hr];have e:(w.extract 2 w.size).data.toList=r:=by rw[extract_data,hr];rfl
  have hz:w.size=r.length+2:=by rw[jY,hr];rfl
  refine .inr (.inl ⟨rfl,w.extract 2 w.size,h3,?_,?_⟩)
  ·rw[jY,e];omega
  ·show (46 :: r)=46 :: _;rw[e]
theorem He:∀(l:List aC)(acc:List bI)(r:List bI × Bool),(∀ p∈acc,gU p)->dK l acc=some r->(∀ p∈r.1,gU p)/\r.1.length+(if r.2 then 1 else 0)=acc.length+l.length
 | [],acc,r,h,e=>by simp[dK]at e;subst e;exact⟨h,aH⟩
 | w :: l,acc,r,h,e=>by
  rw[dK]at e;split at e
  ·rename_i hc;injection e with e;subst e
   simp only[Bool.and_eq_true,List.isEmpty_iff]at hc;exact⟨h,by simp[hc.2]⟩
  ·split at e
   ·rename_i hk;have:=He l (acc++[dG w]) r (fun p hp=>by
     rcases List.mem_append.1 hp with hp | hp
     ·exact h p hp
     ·rw[List.mem_singleton.1 hp];exact Ha hk) e
    exact⟨this.1,by rw[this.2];simp;omega⟩
   ·cases e
theorem Tt{l:List aC}{x:Pat}(h:rV l=some x):lK x:=by
 cases l with
 | nil=>cases h
 | cons l0 r =>
  rw[rV]at h;by_cases hc:(decide (r.length<=32)&&iT l0)=true
  ·have hc2:=hc;rw[Bool.and_eq_true,decide_eq_true_eq]at hc2;rw[if_pos hc]at h;obtain⟨y,hy,rfl⟩:=Option.map_eq_some_iff.1 h;have:=He r [] y (fun p hp=>by cases hp) hy;exact⟨Tq hc2.2,this.1,by show y.1.length+(if y.2=true then 1 else 0)<=32;have h1:=hc2.1;have h2:=this.2;simp at h2;omega⟩
  ·rw[if_neg (by simpa using hc)]at h;cases h
theorem rZ{s:aC}{x:Pat}(h:dI s=some x):lK x:=Tt h
theorem Az:∀(ps:List bI)(ws:List aC),eH ps ws=true->ps.length<=ws.length
 | [],_,_=>aH
 | p :: ps,[],h=>by simp[eH]at h
 | p :: ps,w :: ws,h=>by
  simp only[eH,Bool.and_eq_true]at h;have:=Az ps ws h.2;simpa using this
theorem A8(x:Pat)(a:Adr):mG x a=true↔dW x.cust.kind x.cust.text a.cust=true/\eH x.parts a.path=true/\(x.tail=true\/a.path.length=x.parts.length):=by
 unfold mG;have key:eH x.parts a.path=true->((!decide (a.path.length<x.parts.length)&&!(decide (x.parts.length<a.path.length)&&!x.tail))=true↔(x.tail=true\/a.path.length=x.parts.length)):=by
  intro h;have:=Az _ _ h;cases x.tail <;> simp <;> omega
 cases h1:dW x.cust.kind x.cust.text a.cust
 ·simp
 ·cases h2:eH x.parts a.path
  ·simp
  ·have:=key h2;rw[<-this];simp
theorem BB:∀(xs ys acc r:List bI),(∀ p∈xs,gU p)->(∀ p∈ys,gU p)->ys.length<=xs.length->mtL acc xs ys=some r ->
  ∃ r',r=acc++r'/\r'.length=xs.length/\(∀ p∈r',gU p)/\∀ ws,eH r' ws=(eH xs ws&&eH ys ws)
 | [],[],acc,r,_,_,_,e=>by
  simp[mtL]at e;subst e;exact⟨[],aH,rfl,aH,fun ws=>by simp[eH]⟩
 | [],b :: ys,acc,r,_,_,hl,_=>by simp at hl
 | a :: xs,[],acc,r,hx,hy,_,e=>by
  rw[mtL]at e;obtain⟨r',h1,h2,h3,h4⟩:=BB xs [] (acc++[a]) r (fun p hp=>hx p oV) hy aH e;refine⟨a :: r',by rw[h1];simp,by simp[h2],?_,fun ws=>?_⟩
  ·intro p hp;rcases List.mem_cons.1 hp with rfl | hp
   ·exact hx p aH
   ·exact h3 p hp
  ·cases ws with
   | nil=>simp[eH]
   | cons w ws =>
    have:=h4 ws;simp only[eH,Bool.and_true]at this ⊢;rw[this]
 | a :: xs,b :: ys,acc,r,hx,hy,hl,e=>by
  rw[mtL]at e;split at e
  ·rename_i hm;have ha:=hx a aH;have hb:=hy b aH;obtain⟨r',h1,h2,h3,h4⟩:=BB xs ys (acc++[fD a b]) r (fun p hp=>hx p oV) (fun p hp=>hy p oV) (by simpa using hl) e;refine⟨fD a b :: r',by rw[h1];simp,by simp[h2],?_,fun ws=>?_⟩
   ·intro p hp;rcases List.mem_cons.1 hp with rfl | hp
    ·exact Rn ha hb
    ·exact h3 p hp
   ·cases ws with
    | nil=>simp[eH]
    | cons w ws =>
     simp only[eH];rw[h4 ws,Fh ha hb hm w];cases dW a.kind a.text w <;> cases dW b.kind b.text w <;> cases eH xs ws <;> rfl
  ·cases e
theorem Hf{x y z:Pat}(hx:lK x)(hy:lK y)(hl:y.parts.length<=x.parts.length)(h:oz x y=some z):lK z/\∀ a,mG z a=(mG x a&&mG y a):=by
 unfold oz at h;split at h
 ·cases h
 ·rename_i hc;obtain⟨l,hl2,rfl⟩:=Option.map_eq_some_iff.1 h;simp only[Bool.not_eq_true,Bool.or_eq_false_iff,Bool.not_eq_false',Bool.and_eq_false_iff,decide_eq_false_iff_not,Bool.not_eq_eq_eq_not,Bool.not_false]at hc;obtain⟨hm,ht⟩:=hc;obtain⟨r',h1,h2,h3,h4⟩:=BB _ _ [] l hx.parts hy.parts hl hl2;rw[List.nil_append]at h1;subst h1;constructor
  ·refine⟨Ro hx.cust hy.cust,h3,?_⟩;show l.length+_<=32;rw[h2];have:=hx.num;cases hxt:x.tail <;> simp[hxt]at this ⊢ <;> (try split) <;> omega
  ·intro a;rw[Bool.eq_iff_iff,Bool.and_eq_true,A8,A8,A8];show dW (fD x.cust y.cust).kind (fD x.cust y.cust).text a.cust=true/\eH l a.path=true/\((x.tail&&y.tail)=true\/a.path.length=l.length)↔_;rw[Fh hx.cust.part hy.cust.part hm,h4,h2,Bool.and_eq_true,Bool.and_eq_true,Bool.and_eq_true];constructor
   ·rintro⟨⟨e1,e2⟩,⟨e3,e4⟩,e5⟩;refine⟨⟨e1,e3,?_⟩,e2,e4,?_⟩
    ·rcases e5 with e5 | e5
     ·exact .inl e5.1
     ·exact .inr e5
    ·rcases e5 with e5 | e5
     ·exact .inl e5.2
     ·rcases ht with ht | ht
      ·exact .inr aB
      ·exact .inl ht
   ·rintro⟨⟨e1,e3,e5⟩,e2,e4,e6⟩;refine⟨⟨e1,e2⟩,⟨e3,e4⟩,?_⟩;have:=Az _ _ e3;rcases e5 with e5 | e5
    ·rcases e6 with e6 | e6
     ·exact .inl ⟨e5,e6⟩
     ·exact .inr aB
    ·exact .inr e5
theorem Hg{x y z:Pat}(hx:lK x)(hy:lK y)(h:jL x y=some z):lK z/\∀ a,mG z a=(mG x a&&mG y a):=by
 unfold jL at h;split at h
 ·rename_i hl;obtain⟨h1,h2⟩:=Hf hy hx aB h;exact⟨h1,fun a=>by rw[h2,Bool.and_comm]⟩
 ·rename_i hl;exact Hf hx hy aB h
theorem uQ(ps:List bI):(qN ps).length=ps.length:=by simp[qN]
def Hl:List bI->List bI->Bool
 | [],_=>true
 | _ :: _,[]=>false
 | a :: xs,b :: ys=>fC a.kind a.text b.kind b.text&&Hl xs ys
def BC(x y:Pat):Bool :=
 fC x.cust.kind x.cust.text y.cust.kind y.cust.text&&!decide (y.parts.length<x.parts.length)&&!(decide (x.parts.length<y.parts.length)&&!x.tail)&&!(y.tail&&!x.tail)&&Hl x.parts y.parts
theorem Tu(l:List (List UInt8)):Lib.joinTail [47] l=dF l:=by
 induction l with
 | nil=>rfl
 | cons x l ih =>
  simp only[Lib.joinTail,dF,List.map_cons,List.flatten_cons,List.flatMap_cons]at ih ⊢;rw[ih];rfl
theorem yB(c:aC)(ws:List aC):(jI (c :: ws)).data.toList=c.data.toList++dF (az ws):=by
 unfold jI az;rw[List.map_cons,Lib.join_cons,Tu];rfl
theorem Tv(c:aC)(ws:List aC)(hc:47 ∉ c.data.toList)(hw:∀ w∈ws,47 ∉ w.data.toList):splitB 47 (jI (c :: ws))=c :: ws:=by
 unfold splitB;rw[yB,Fb _ _ hc (by
  intro y hy;obtain⟨z,hz,rfl⟩:=List.mem_map.1 hy;exact hw z hz)]
 have:∀ z:aC,(⟨z.data.toList.toArray⟩:aC)=z:=fun z=>fK rfl
 simp[az,Function.comp_def]
theorem Hm:∀ l:List UInt8,∃ x r,dO 47 l=x :: r/\l=x++dF r
 | []=>⟨[],[],rfl,rfl⟩
 | b :: l=>by
  obtain⟨x,r,h1,h2⟩:=Hm l;unfold dO;split
  ·rename_i e;exact⟨[],x :: r,by rw[h1],by rw[e,h2];simp[dF]⟩
  ·rw[h1];exact⟨b :: x,r,rfl,by rw[h2];rfl⟩
theorem Tz(s:aC):jI (splitB 47 s)=s:=by
 obtain⟨x,r,h1,h2⟩:=Hm s.data.toList;unfold splitB;rw[h1,List.map_cons];refine fK ?_;rw[yB];have:az (r.map fun l=>(⟨l.toArray⟩:aC))=r:=by simp[az,Function.comp_def]
 rw[this,h2]
theorem qQ(k:Nat)(t:aC):(dQ k t).data.toList=if k=0 then t.data.toList else 42 :: t.data.toList:=by
 unfold dQ;split
 ·rfl
 ·simp
theorem yC{p:bI}(hp:gU p):kP (dQ p.kind p.text)=true/\dG (dQ p.kind p.text)=p/\47 ∉ (dQ p.kind p.text).data.toList/\(dQ p.kind p.text).data.toList ≠ [42,42]:=by
 obtain⟨k,t⟩:=p;have e:=qQ k t;rcases hp with ⟨hk,hw⟩ | ⟨hk,s,hs,hs2,ht⟩ | ⟨hk,ht⟩ <;> dsimp only at * <;> subst hk
 ·have e0:dQ 0 t=t:=rfl;rw[e0];refine⟨?_,uq hw,(rP hw).1,fun h=>?_⟩
  ·unfold kP;rw[hw];simp
  ·exact (rP hw).2.2.2.2.1 (by rw[h];simp)
 ·rw[if_neg aK,ht]at e;refine⟨?_,?_,?_,?_⟩
  ·have h2:(dQ 1 t).extract 2 (dQ 1 t).size=s:=fK (by rw[extract_data,e];rfl);have hz:(dQ 1 t).size=s.size+2:=by rw[jY,jY,e];rfl
   unfold kP;rw[h2,hs,e,hz];have h34:decide (s.size+2<=34)=true:=aP;rw[h34];simp[Lib.hasPrefix]
  ·rw[o8 _ e];simp only[List.isEmpty_cons,Bool.false_eq_true,if_false];exact congrArg (bI.mk 1) (fK ht.symm)
  ·rw[e];have:=(rP hs).1;simp[this]
  ·rw[e];intro h;injection h with _ h;injection h with h _;exact absurd h aK
 ·subst ht;rw[if_neg aK]at e;refine⟨?_,?_,?_,?_⟩
  ·unfold kP;rw[Lib.toList_data,e];rfl
  ·rw[o8 _ e];rfl
  ·rw[e];simp
  ·rw[e];simp
theorem UA{p:bI}(hp:oP p):iT (dQ p.kind p.text)=true:=by
 have e:=qQ p.kind p.text;obtain⟨k,t⟩:=p;rcases hp with ⟨hk,hw⟩ | ⟨hk,ht⟩ <;> dsimp only at * <;> subst hk
 ·have e0:dQ 0 t=t:=rfl;rw[e0];unfold iT;rw[hw,Bool.or_true]
 ·unfold iT;rw[Lib.toList_data,e,ht];rfl
def iG(b:Bool):List aC:=if b then [⟨#[42,42]⟩] else []
theorem Ho:∀(ps acc:List bI)(b:Bool),(∀ p∈ps,gU p)->dK (dX ps++iG b) acc=some (acc++ps,b)
 | [],acc,b,_=>by
  cases b
  ·simp[dX,iG,dK]
  ·simp only[dX,iG,List.map_nil,List.nil_append,if_true,dK];rw[if_pos (by rw[Lib.toList_data];rfl)];simp
 | p :: ps,acc,b,h=>by
  obtain⟨h1,h2,h3,h4⟩:=yC (h p aH);have e:dX (p :: ps)++iG b=dQ p.kind p.text :: (dX ps++iG b):=rfl;rw[e,dK,if_neg (by rw[Lib.toList_data];simp[h4]),if_pos h1,h2,Ho ps _ b fun q hq=>h q (by simp[hq])];simp
theorem yD(z:Pat):jq z=jI (dQ z.cust.kind z.cust.text :: (dX z.parts++iG z.tail)):=rfl
theorem BD(l0:aC)(r:List aC):rV (l0 :: r)=if (decide (r.length<=32)&&iT l0)=true then (dK r []).map fun x=>⟨dG l0,x.1,x.2⟩ else none:=rfl
theorem UB{z:Pat}(hz:lK z):dI (jq z)=some z:=by
 unfold dI;rw[yD,Tv _ _ (yC hz.cust.part).2.2.1 (by
  intro w hw;rcases List.mem_append.1 hw with hw | hw
  ·obtain⟨p,hp,rfl⟩:=List.mem_map.1 hw;exact (yC (hz.parts p hp)).2.2.1
  ·unfold iG at hw;split at hw
   ·rw[List.mem_singleton.1 hw];decide
   ·cases hw)]
 rw[BD];have hn:=hz.num;have hl:(dX z.parts++iG z.tail).length<=32:=by
  unfold dX iG;rw[List.length_append,List.length_map];cases ht:z.tail <;> simp[ht]at hn ⊢ <;> omega
 rw[if_pos (by rw[Bool.and_eq_true,decide_eq_true_eq];exact⟨hl,UA hz.cust⟩),Ho _ _ _ hz.parts,(yC hz.cust.part).2.1];rfl
theorem UC{w:aC}(h:iT w=true):dQ (dG w).kind (dG w).text=w:=by
 unfold iT at h;rw[Bool.or_eq_true,Lib.toList_data,beq_iff_eq]at h;rcases h with h | h
 ·rw[o8 [] h];exact fK (by rw[qQ,if_neg aK,h];rfl)
 ·rw[uq (nI h)];rfl
theorem UD{w:aC}(h:kP w=true):dQ (dG w).kind (dG w).text=w:=by
 have hf:=Ha h;unfold kP at h;rw[Bool.or_eq_true,Bool.or_eq_true,Lib.toList_data,beq_iff_eq]at h;rcases h with (h | h) | h
 ·rw[o8 [] h];exact fK (by rw[qQ,if_neg aK,h];rfl)
 ·rw[uq h];rfl
 ·simp only[Bool.and_eq_true,decide_eq_true_eq]at h;obtain⟨⟨h1,h2⟩,h3⟩:=h;obtain⟨r,hr⟩:=G9 h2;rw[o8 (46 :: r) hr];exact fK (by simp[qQ,hr])
theorem Hq:∀(l:List aC)(acc:List bI)(r:List bI × Bool),dK l acc=some r->dX r.1++iG r.2=dX acc++l
 | [],acc,r,e=>by simp[dK]at e;subst e;simp[iG]
 | w :: l,acc,r,e=>by
  rw[dK]at e;split at e
  ·rename_i hc;injection e with e;subst e
   simp only[Bool.and_eq_true,List.isEmpty_iff,Lib.toList_data,beq_iff_eq]at hc;rw[hc.2];have:w=⟨#[42,42]⟩:=fK hc.1;rw[this];rfl
  ·split at e
   ·rename_i hk;rw[Hq l _ r e];unfold dX;rw[List.map_append,List.map_cons,UD hk];simp
   ·cases e
theorem Hr{q:aC}{y:Pat}(h:dI q=some y):jq y=q:=by
 unfold dI at h;have hj:=Tz q;generalize splitB 47 q=l at h hj;cases l with
 | nil=>cases h
 | cons l0 r =>
  rw[BD]at h;split at h
  ·rename_i hc;rw[Bool.and_eq_true]at hc;obtain⟨x,hx,rfl⟩:=Option.map_eq_some_iff.1 h;have hb:=Hq r [] x hx;rw[yD];show jI (dQ (dG l0).kind (dG l0).text :: (dX x.1++iG x.2))=q;rw[UC hc.2,hb,<-hj];rfl
  ·cases h
def Ht(z:Pat):aC:=jI (nM z.cust.kind z.cust.text ⟨#[97]⟩ :: qN z.parts)
def Hu:List bI->List bI->Option (List aC)
 | [],_=>none
 | _ :: _,[]=>none
 | a :: xs,b :: ys=>if fC a.kind a.text b.kind b.text then (Hu xs ys).map (nM b.kind b.text ⟨#[97]⟩ :: ·) else some (Hw b.kind b.text a.kind a.text :: qN ys)
def Hy(x y:Pat):aC :=
 if !fC x.cust.kind x.cust.text y.cust.kind y.cust.text then jI (Hw y.cust.kind y.cust.text x.cust.kind x.cust.text :: qN y.parts)
 else if decide (y.parts.length<x.parts.length)||(decide (x.parts.length<y.parts.length)&&!x.tail) then Ht y
 else if y.tail&&!x.tail then jI (nM y.cust.kind y.cust.text ⟨#[97]⟩ :: (qN y.parts++[⟨#[97]⟩]))
 else match Hu x.parts y.parts with
  | some ws=>jI (nM y.cust.kind y.cust.text ⟨#[97]⟩ :: ws)
  | none=>⟨#[]⟩
def gY(p:aC):Bool:=decide (p.size=0)||(dI p).isSome
def mO(p q:aC):Option aC:=if p.size=0 then some q else if q.size=0 then some p else match dI p,dI q with
 | some x,some y=>(jL x y).map jq
 | _,_=>none
theorem yE{p:aC}(h:gY p=true)(h0:p.size≠0):∃ x,dI p=some x:=by
 unfold gY at h;rw[Bool.or_eq_true,decide_eq_true_eq]at h;rcases h with h | h
 ·exact absurd h h0
 ·exact Option.isSome_iff_exists.1 h
theorem UE{p q r:aC}(hp:gY p=true)(hq:gY q=true)(h:mO p q=some r):gY r=true:=by
 unfold mO at h;split at h
 ·injection h with h;rw[<-h];exact hq
 ·split at h
  ·injection h with h;rw[<-h];exact hp
  ·rename_i h1 h2;obtain⟨x,hx⟩:=yE hp h1;obtain⟨y,hy⟩:=yE hq h2;rw[hx,hy]at h;obtain⟨z,hz,hr⟩:=Option.map_eq_some_iff.1 h;unfold gY;rw[<-hr,UB (Hg (rZ hx) (rZ hy) hz).1];simp
theorem Hz{p q:aC}{x y:Pat}(h1:p.size≠0)(h2:q.size≠0)(hx:dI p=some x)(hy:dI q=some y):mO p q=(jL x y).map jq:=by
 unfold mO;rw[if_neg h1,if_neg h2,hx,hy]
section
variable {α:Type}
theorem BG{lt:α->α->Bool}{right:α->Bool}{l:List α}(h:(List.range l.length).all (okK lt right l)=true)(k:Nat)(hk:k<l.length):right l[k]=true/\∀ j,(hj:j+1=k)->lt (l[j]' aB) l[k]=true:=by
 have:=(List.all_eq_true.1 h) k (by simpa using hk);unfold okK at this;rw[List.getElem?_eq_getElem hk]at this;simp only[Bool.and_eq_true]at this;refine⟨this.1,fun j hj=>?_⟩;subst hj;have h2:=this.2;rw[Nat.add_sub_cancel,List.getElem?_eq_getElem (show j<l.length by omega)]at h2;simpa using h2
theorem BH{lt:α->α->Bool}(tr:∀ a b c,lt a b=true->lt b c=true->lt a c=true)(right:α->Bool)(most:Nat)(l:List α):iU lt right most l=true↔(∀ x∈l,right x=true)/\l.Pairwise (fun a b=>lt a b=true)/\l.length<=most:=by
 unfold iU;rw[Bool.and_eq_true,decide_eq_true_eq];constructor
 ·rintro⟨h,hm⟩;refine⟨fun x hx=>?_,List.pairwise_iff_getElem.2 fun i j hi hj hij=>?_,hm⟩
  ·obtain⟨k,hk,rfl⟩:=List.getElem_of_mem hx;exact (BG h k hk).1
  ·have key:∀ d i,(hd:i+d+1<l.length)->lt (l[i]' aB) (l[i+d+1]'hd)=true:=by
    intro d;induction d with
    | zero=>intro i hd;exact (BG h (i+1) hd).2 i rfl
    | succ d ih=>intro i hd;exact tr _ _ _ (ih i aB) ((BG h (i+(d+1)+1) hd).2 (i+d+1) aB)
   have:=key (j-i-1) i aB;simpa[show i+(j-i-1)+1=j by omega] using this
 ·rintro⟨h1,h2,h3⟩;refine⟨List.all_eq_true.2 fun k hk=>?_,h3⟩;have hk:k<l.length:=by simpa using hk
  unfold okK;rw[List.getElem?_eq_getElem hk];simp only[Bool.and_eq_true,h1 _ (List.getElem_mem hk),true_and];cases k with
  | zero=>rfl
  | succ k =>
   rw[Nat.add_sub_cancel,List.getElem?_eq_getElem (show k<l.length by omega)];simp[List.pairwise_iff_getElem.1 h2 k (k+1) aB hk aB]
variable [DecidableEq α]
def bG(l:List α)(x:α):Bool:=l.isEmpty||l.contains x
def eP(a b:List α):List α:=(if a.isEmpty then b else a).filter (bG b)
def gW(a b:List α):Bool:=!(eP a b).isEmpty||(if a.isEmpty then b else a).isEmpty
def ja(a b:List α):Option (List α):=if gW a b then some (eP a b) else none
theorem UF(b:List α):ja [] b=some b:=by
 unfold ja gW eP;have:b.filter (bG b)=b:=List.filter_eq_self.2 fun x hx=>by unfold bG;simp[hx]
 simp[this]
theorem UG(a:List α):ja a []=some a:=by
 unfold ja gW eP;cases a with
 | nil=>rfl
 | cons x a =>
  have:(x :: a).filter (bG [])=x :: a:=List.filter_eq_self.2 fun y hy=>rfl
  simp[this]
theorem UH{a b:List α}(ha:a ≠ [])(hb:b ≠ []):ja a b=if (a.filter fun x=>decide (x∈b))=[] then none else some (a.filter fun x=>decide (x∈b)):=by
 have ea:a.isEmpty=false:=BI;have eb:b.isEmpty=false:=by cases b;exact absurd rfl hb;rfl
 have e:a.filter (bG b)=a.filter fun x=>decide (x∈b):=List.filter_congr fun x _=>by unfold bG;rw[eb];simp
 unfold ja gW eP;rw[ea];simp only[Bool.false_eq_true,if_false,e,ea,Bool.or_false];cases h:(a.filter fun x=>decide (x∈b)) with
 | nil=>simp
 | cons x l=>simp
theorem BJ{a b s:List α}(h:ja a b=some s):(∀ x,bG s x=(bG a x&&bG b x))/\(s=[]↔a=[]/\b=[])/\s.Sublist (if a.isEmpty then b else a):=by
 by_cases ha:a=[]
 ·subst ha;rw[UF]at h;injection h with h;subst h
  exact⟨fun x=>by simp[bG],aH,aH⟩
 ·by_cases hb:b=[]
  ·subst hb;rw[UG]at h;injection h with h;subst h
   have ea:a.isEmpty=false:=BI;exact⟨fun x=>by simp[bG],by simp[ha],by rw[ea];exact List.Sublist.refl _⟩
  ·rw[UH ha hb]at h;split at h
   ·cases h
   ·rename_i hne;injection h with h;subst h
    have ea:a.isEmpty=false:=BI;have eb:b.isEmpty=false:=by cases b;exact absurd rfl hb;rfl
    have es:(a.filter fun x=>decide (x∈b)).isEmpty=false:=by
     cases h:(a.filter fun x=>decide (x∈b))
     ·exact absurd h hne
     ·rfl
    refine⟨fun x=>?_,by simp[hne,ha],by rw[ea];exact List.filter_sublist⟩;unfold bG;rw[ea,eb,es];simp only[Bool.false_or];rw[Bool.eq_iff_iff];simp
end
def BK(c:aY):Bool:=decide (0<=c.fr/\c.fr<=1099511627776/\0<=c.till/\c.till<=1099511627777/\0<=c.us/\c.us<=1073741824)
def bF(c:aY):Bool:=BK c&&gY c.pat&&iU ltB bU 32 c.cl&&iU ltB iV 32 c.co&&iU ltI jb 64 c.si
theorem H5(a b c:aC)(h1:ltB a b=true)(h2:ltB b c=true):ltB a c=true:=by
 unfold ltB at *;rw[decide_eq_true_eq] at *;exact List.lt_trans h1 h2
theorem UI(a b c:Int)(h1:ltI a b=true)(h2:ltI b c=true):ltI a c=true:=by
 unfold ltI at *;rw[decide_eq_true_eq] at *;omega
structure jc(c:aY):Prop where
 fr0:0<=c.fr
 fr1:c.fr<=1099511627776
 to0:0<=c.till
 to1:c.till<=1099511627777
 us0:0<=c.us
 us1:c.us<=1073741824
 pat:gY c.pat=true
 cl:∀ x∈c.cl,bU x=true
 clUp:c.cl.Pairwise fun a b=>ltB a b=true
 clLen:c.cl.length<=32
 co:∀ x∈c.co,iV x=true
 coUp:c.co.Pairwise fun a b=>ltB a b=true
 coLen:c.co.length<=32
 si:∀ x∈c.si,jb x=true
 siUp:c.si.Pairwise fun a b=>ltI a b=true
 siLen:c.si.length<=64
theorem mP(c:aY):bF c=true↔jc c:=by
 unfold bF BK;rw[Bool.and_eq_true,Bool.and_eq_true,Bool.and_eq_true,Bool.and_eq_true,decide_eq_true_eq,BH H5,BH H5,BH UI];constructor
 ·rintro⟨⟨⟨⟨⟨a1,a2,a3,a4,a5,a6⟩,b⟩,c1,c2,c3⟩,d1,d2,d3⟩,e1,e2,e3⟩;exact⟨a1,a2,a3,a4,a5,a6,b,c1,c2,c3,d1,d2,d3,e1,e2,e3⟩
 ·rintro⟨a1,a2,a3,a4,a5,a6,b,c1,c2,c3,d1,d2,d3,e1,e2,e3⟩;exact⟨⟨⟨⟨⟨a1,a2,a3,a4,a5,a6⟩,b⟩,c1,c2,c3⟩,d1,d2,d3⟩,e1,e2,e3⟩
def fF(a b:Int):Int:=if 0<a/\0<b then min a b else max a b
def rf(a b:aY):Option aY:=(mO a.pat b.pat).bind fun p=>(ja a.cl b.cl).bind fun cl=>(ja a.co b.co).bind fun co=>(ja a.si b.si).bind fun si =>
 if max a.fr b.fr<min a.till b.till then some ⟨max a.fr b.fr,min a.till b.till,p,cl,co,si,fF a.us b.us⟩ else none
def iH(a b:aY):aY:=(rf a b).getD ed
theorem UJ{a b s:aY}:rf a b=some s↔mO a.pat b.pat=some s.pat/\ja a.cl b.cl=some s.cl/\ja a.co b.co=some s.co/\ja a.si b.si=some s.si/\max a.fr b.fr<min a.till b.till/\s.fr=max a.fr b.fr/\s.till=min a.till b.till/\s.us=fF a.us b.us:=by
 unfold rf;constructor
 ·intro h;obtain⟨p,h1,h⟩:=Option.bind_eq_some_iff.1 h;obtain⟨cl,h2,h⟩:=Option.bind_eq_some_iff.1 h;obtain⟨co,h3,h⟩:=Option.bind_eq_some_iff.1 h;obtain⟨si,h4,h⟩:=Option.bind_eq_some_iff.1 h;split at h
  ·rename_i hlt;injection h with h
   subst h;exact⟨h1,h2,h3,h4,hlt,rfl,rfl,rfl⟩
  ·cases h
 ·rintro⟨h1,h2,h3,h4,h5,h6,h7,h8⟩;rw[h1,Option.bind_some,h2,Option.bind_some,h3,Option.bind_some,h4,Option.bind_some,if_pos h5,<-h6,<-h7,<-h8]
theorem UK{a b s:aY}(ha:jc a)(hb:jc b)(h:rf a b=some s):jc s/\s.fr<s.till:=by
 obtain⟨h1,h2,h3,h4,h5,h6,h7,h8⟩:=UJ.1 h;have m1:=(BJ h2).2.2;have m2:=(BJ h3).2.2;have m3:=(BJ h4).2.2;refine⟨?_,aB⟩;have a0:=ha.fr0;have a1:=ha.fr1;have a2:=ha.to0;have a3:=ha.to1;have a4:=ha.us0;have a5:=ha.us1;have b0:=hb.fr0;have b1:=hb.fr1;have b2:=hb.to0;have b3:=hb.to1;have b4:=hb.us0;have b5:=hb.us1;have hu:0<=fF a.us b.us/\fF a.us b.us<=1073741824:=by unfold fF;split <;> omega
 refine⟨aB,aB,aB,aB,aB,aB,UE ha.pat hb.pat h1,?_,?_,?_,?_,?_,?_,?_,?_,?_⟩
 ·split at m1
  ·exact fun x hx=>hb.cl x (m1.subset hx)
  ·exact fun x hx=>ha.cl x (m1.subset hx)
 ·split at m1
  ·exact hb.clUp.sublist m1
  ·exact ha.clUp.sublist m1
 ·split at m1
  ·exact Nat.le_trans m1.length_le hb.clLen
  ·exact Nat.le_trans m1.length_le ha.clLen
 ·split at m2
  ·exact fun x hx=>hb.co x (m2.subset hx)
  ·exact fun x hx=>ha.co x (m2.subset hx)
 ·split at m2
  ·exact hb.coUp.sublist m2
  ·exact ha.coUp.sublist m2
 ·split at m2
  ·exact Nat.le_trans m2.length_le hb.coLen
  ·exact Nat.le_trans m2.length_le ha.coLen
 ·split at m3
  ·exact fun x hx=>hb.si x (m3.subset hx)
  ·exact fun x hx=>ha.si x (m3.subset hx)
 ·split at m3
  ·exact hb.siUp.sublist m3
  ·exact ha.siUp.sublist m3
 ·split at m3
  ·exact Nat.le_trans m3.length_le hb.siLen
  ·exact Nat.le_trans m3.length_le ha.siLen
theorem H8:jc ed:=by
 refine⟨aK,aK,aK,aK,aK,aK,rfl,?_,?_,?_,?_,?_,?_,?_,?_,?_⟩ <;> simp[ed]
theorem UL{a b:aY}(ha:jc a)(hb:jc b):jc (iH a b):=by
 unfold iH;cases h:rf a b with
 | none=>exact H8
 | some s=>exact (UK ha hb h).1
def nN(p:aC):aC:=if p.size=0 then ⟨#[42,47,42,42]⟩ else p
theorem UM(a b:aC):(!(Op.bytesLess a.toList b.toList||a.toList==b.toList))=decide (b.data.toList<a.data.toList):=by
 exact IA
theorem IC(qs:List (aC × aC))(k:Nat)(hk:k<qs.length):lL qs k=true↔bU qs[k].1=true/\bW qs[k].2=true/\(k=0\/∃ h:k-1<qs.length,qs[k-1].1.data.toList<qs[k].1.data.toList):=by
 unfold lL;rw[List.getElem?_eq_getElem hk];simp only[Bool.and_eq_true,Bool.or_eq_true,beq_iff_eq];have hk1:k-1<qs.length:=aB;rw[List.getElem?_eq_getElem hk1];simp only[Option.getD_some];rw[UM,decide_eq_true_eq];constructor
 ·rintro⟨⟨h1,h2⟩,h3⟩;exact⟨h1,h2,h3.imp id fun h=>⟨hk1,h⟩⟩
 ·rintro⟨h1,h2,h3⟩;exact⟨⟨h1,h2⟩,h3.imp id fun ⟨_,h⟩=>h⟩
theorem UN(c:aC)(xs:List aC)(qs:List (aC × aC)):nO c xs qs=true↔BM ⟨c,xs,qs⟩/\(W06 c xs qs).length<=4096:=by
 unfold nO qR;simp only[Bool.and_eq_true,decide_eq_true_eq,List.all_eq_true,List.mem_range];constructor
 ·rintro⟨⟨⟨⟨⟨h1,h2⟩,h3⟩,h4⟩,h5⟩,h6⟩;have hat:=fun k hk=>(IC qs k hk).1 (h5 k hk)
  refine⟨⟨h1,h4,h2,h3,?_,?_⟩,h6⟩
  ·intro q hq;obtain⟨k,hk,rfl⟩:=List.getElem_of_mem hq;exact⟨(hat k hk).1,(hat k hk).2.1⟩
  ·unfold BN;rw[List.pairwise_iff_getElem];intro i j;induction j with
   | zero=>intro _ _ h;omega
   | succ j ih =>
    intro hi hj hij;rcases (hat (j+1) hj).2.2 with h | ⟨h,h7⟩
    ·omega
    ·have e:j+1-1=j:=rfl;simp only[e]at h7;by_cases hij2:i=j
     ·subst hij2;exact h7
     ·exact List.lt_trans (ih hi aB aB) h7
 ·rintro⟨⟨h1,h4,h2,h3,h5,h7⟩,h6⟩;refine⟨⟨⟨⟨⟨h1,h2⟩,h3⟩,h4⟩,fun k hk=>?_⟩,h6⟩;rw[IC qs k hk];have hq:=h5 qs[k] (List.getElem_mem hk);refine⟨hq.1,hq.2,?_⟩;by_cases h0:k=0
  ·exact .inl h0
  ·have hk1:k-1<qs.length:=aB;exact .inr ⟨hk1,List.pairwise_iff_getElem.1 h7 (k-1) k hk1 hk aB⟩
section
variable {c:aC} {ws:List aC} (hc:bU c=true) (hw:∀ w∈ws,bW w=true) (hn:ws.length<=32)
include hc hw hn
end
end Go.Proofs.YtlkbkclnbppigaaGreatDoor
