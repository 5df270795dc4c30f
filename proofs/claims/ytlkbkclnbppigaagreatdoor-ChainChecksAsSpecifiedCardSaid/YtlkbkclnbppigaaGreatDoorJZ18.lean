/- Plain: what patterns match, cover and have in common; the string of a pattern. -/
import Derived.Test.YtlkbkclnbppigaaGreatDoorJZ16
namespace Go.Proofs.YtlkbkclnbppigaaGreatDoor
open Tryz
open Go.RowKit Go.Sort
set_option linter.unusedVariables false
set_option linter.unusedSimpArgs false
set_option maxRecDepth 100000
structure mg(x:Pat):Prop where
 cust:qA x.cust
 parts:∀ p∈x.parts,iE p
 num:x.parts.length+(if x.tail then 1 else 0)<=32
theorem extract_data(s:ByteArray)(i:Nat):(s.extract i s.size).data.toList=s.data.toList.drop i:=by
 rw[Lib.extract_to_end]
theorem Na(s:ByteArray):(s.extract 0 1).data.toList=s.data.toList.take 1:=by
 rw[Lib.extract_data];simp
theorem yU{w:ByteArray}(h:bC w=true):dD w=⟨0,w⟩:=by
 obtain⟨h1,_⟩:=yF h;have h42:=(rH h).2.2.2.2.1;unfold dD;split
 ·rfl
 ·rw[if_pos];rw[Lib.toList_data,Na];obtain⟨b,l,hl⟩:=List.exists_cons_of_ne_nil h1;rw[hl]at h42 ⊢;simp only[List.mem_cons,not_or]at h42;simp only[List.take_succ_cons,List.take_zero,Bool.not_eq_true',beq_eq_false_iff_ne,ne_eq,List.cons.injEq,and_true];exact fun e=>h42.1 e.symm
theorem rY{w:ByteArray}(r:List UInt8)(h:w.data.toList=42 :: r):dD w=if r.isEmpty then ⟨2,⟨#[]⟩⟩ else ⟨1,⟨r.toArray⟩⟩:=by
 have hz:w.size=r.length+1:=by rw[iL,h];rfl
 have e1:(w.extract 0 1).toList=[42]:=by rw[Lib.toList_data,Na,h];rfl
 have e2:(w.extract 1 w.size).data.toList=r:=by rw[extract_data,h];rfl
 have e3:w.extract 1 w.size=⟨r.toArray⟩:=dP (by rw[e2]);unfold dD;rw[if_neg aA,e1,e3,Lib.toList_data];simp only[BEq.rfl,Bool.not_true,Bool.false_eq_true,if_false];cases r <;> rfl
theorem Zu:iE ⟨2,⟨#[]⟩⟩:=.inr (.inr ⟨rfl,rfl⟩)
theorem Zv{w:ByteArray}(h:iM w=true):qA (dD w):=by
 unfold iM at h;rw[Bool.or_eq_true,Lib.toList_data,beq_iff_eq]at h;rcases h with h | h
 ·rw[rY [] h];exact .inr ⟨rfl,rfl⟩
 ·rw[yU (oW h)];exact .inl ⟨rfl,h⟩
theorem Fj{l:List UInt8}(h:Lib.hasPrefix l [42,46]=true):∃ r,l=42 :: 46 :: r:=by
 unfold Lib.hasPrefix at h;rw[List.isPrefixOf_iff_prefix]at h;obtain⟨r,hr⟩:=h;exact⟨r,hr.symm⟩
theorem Nb{w:ByteArray}(h:jg w=true):iE (dD w):=by
 unfold jg at h;rw[Bool.or_eq_true,Bool.or_eq_true,Lib.toList_data,beq_iff_eq]at h;rcases h with (h | h) | h
 ·rw[rY [] h];exact Zu
 ·rw[yU h];exact .inl ⟨rfl,h⟩
 ·simp only[Bool.and_eq_true,decide_eq_true_eq]at h;obtain⟨⟨h1,h2⟩,h3⟩:=h;obtain⟨r,hr⟩:=Fj h2;rw[rY (46 :: r) hr];have e:(w.extract 2 w.size).data.toList=r:=by rw[extract_data,hr];rfl
  have hz:w.size=r.length+2:=by rw[iL,hr];rfl
  refine .inr (.inl ⟨rfl,w.extract 2 w.size,h3,?_,?_⟩)
  ·rw[iL,e];omega
  ·show (46 :: r)=46 :: _;rw[e]
theorem Nc:∀(l:List ByteArray)(acc:List bJ)(r:List bJ × Bool),(∀ p∈acc,iE p)->dC l acc=some r->(∀ p∈r.1,iE p)/\r.1.length+(if r.2 then 1 else 0)=acc.length+l.length
 | [],acc,r,h,e=>by simp[dC]at e;subst e;exact⟨h,aF⟩
 | w :: l,acc,r,h,e=>by
  rw[dC]at e;split at e
  ·rename_i hc;injection e with e;subst e
   simp only[Bool.and_eq_true,List.isEmpty_iff]at hc;exact⟨h,by simp[hc.2]⟩
  ·split at e
   ·rename_i hk;have:=Nc l (acc++[dD w]) r (fun p hp=>by
     rcases List.mem_append.1 hp with hp | hp
     ·exact h p hp
     ·rw[List.mem_singleton.1 hp];exact Nb hk) e
    exact⟨this.1,by rw[this.2];simp;omega⟩
   ·cases e
theorem Zw{l:List ByteArray}{x:Pat}(h:nV l=some x):mg x:=by
 cases l with
 | nil=>cases h
 | cons l0 r =>
  rw[nV]at h;by_cases hc:(decide (r.length<=32)&&iM l0)=true
  ·have hc2:=hc;rw[Bool.and_eq_true,decide_eq_true_eq]at hc2;rw[if_pos hc]at h;obtain⟨y,hy,rfl⟩:=Option.map_eq_some_iff.1 h;have:=Nc r [] y (fun p hp=>by cases hp) hy;exact⟨Zv hc2.2,this.1,by show y.1.length+(if y.2=true then 1 else 0)<=32;have h1:=hc2.1;have h2:=this.2;simp at h2;omega⟩
  ·rw[if_neg (by simpa using hc)]at h;cases h
theorem uG{s:ByteArray}{x:Pat}(h:dF s=some x):mg x:=Zw h
theorem Fp:∀(ps:List bJ)(ws:List ByteArray),dh ps ws=true->ps.length<=ws.length
 | [],_,_=>aF
 | p :: ps,[],h=>by simp[dh]at h
 | p :: ps,w :: ws,h=>by
  simp only[dh,Bool.and_eq_true]at h;have:=Fp ps ws h.2;simpa using this
theorem Fq(x:Pat)(a:Adr):kJ x a=true↔dQ x.cust.kind x.cust.text a.cust=true/\dh x.parts a.path=true/\(x.tail=true\/a.path.length=x.parts.length):=by
 unfold kJ;have key:dh x.parts a.path=true->((!decide (a.path.length<x.parts.length)&&!(decide (x.parts.length<a.path.length)&&!x.tail))=true↔(x.tail=true\/a.path.length=x.parts.length)):=by
  intro h;have:=Fp _ _ h;cases x.tail <;> simp <;> omega
 cases h1:dQ x.cust.kind x.cust.text a.cust
 ·simp
 ·cases h2:dh x.parts a.path
  ·simp
  ·have:=key h2;rw[<-this];simp
theorem Fv:∀(xs ys acc r:List bJ),(∀ p∈xs,iE p)->(∀ p∈ys,iE p)->ys.length<=xs.length->mtL acc xs ys=some r ->
  ∃ r',r=acc++r'/\r'.length=xs.length/\(∀ p∈r',iE p)/\∀ ws,dh r' ws=(dh xs ws&&dh ys ws)
 | [],[],acc,r,_,_,_,e=>by
  simp[mtL]at e;subst e;exact⟨[],aF,rfl,aF,fun ws=>by simp[dh]⟩
 | [],b :: ys,acc,r,_,_,hl,_=>by simp at hl
 | a :: xs,[],acc,r,hx,hy,_,e=>by
  rw[mtL]at e;obtain⟨r',h1,h2,h3,h4⟩:=Fv xs [] (acc++[a]) r (fun p hp=>hx p nZ) hy aF e;refine⟨a :: r',by rw[h1];simp,by simp[h2],?_,fun ws=>?_⟩
  ·intro p hp;rcases List.mem_cons.1 hp with rfl | hp
   ·exact hx p aF
   ·exact h3 p hp
  ·cases ws with
   | nil=>simp[dh]
   | cons w ws =>
    have:=h4 ws;simp only[dh,Bool.and_true]at this ⊢;rw[this]
 | a :: xs,b :: ys,acc,r,hx,hy,hl,e=>by
  rw[mtL]at e;split at e
  ·rename_i hm;have ha:=hx a aF;have hb:=hy b aF;obtain⟨r',h1,h2,h3,h4⟩:=Fv xs ys (acc++[gX a b]) r (fun p hp=>hx p nZ) (fun p hp=>hy p nZ) (by simpa using hl) e;refine⟨gX a b :: r',by rw[h1];simp,by simp[h2],?_,fun ws=>?_⟩
   ·intro p hp;rcases List.mem_cons.1 hp with rfl | hp
    ·exact Y7 ha hb
    ·exact h3 p hp
   ·cases ws with
    | nil=>simp[dh]
    | cons w ws =>
     simp only[dh];rw[h4 ws,Lh ha hb hm w];cases dQ a.kind a.text w <;> cases dQ b.kind b.text w <;> cases dh xs ws <;> rfl
  ·cases e
theorem Nh{x y z:Pat}(hx:mg x)(hy:mg y)(hl:y.parts.length<=x.parts.length)(h:rW x y=some z):mg z/\∀ a,kJ z a=(kJ x a&&kJ y a):=by
 unfold rW at h;split at h
 ·cases h
 ·rename_i hc;obtain⟨l,hl2,rfl⟩:=Option.map_eq_some_iff.1 h;simp only[Bool.not_eq_true,Bool.or_eq_false_iff,Bool.not_eq_false',Bool.and_eq_false_iff,decide_eq_false_iff_not,Bool.not_eq_eq_eq_not,Bool.not_false]at hc;obtain⟨hm,ht⟩:=hc;obtain⟨r',h1,h2,h3,h4⟩:=Fv _ _ [] l hx.parts hy.parts hl hl2;rw[List.nil_append]at h1;subst h1;constructor
  ·refine⟨Y8 hx.cust hy.cust,h3,?_⟩;show l.length+_<=32;rw[h2];have:=hx.num;cases hxt:x.tail <;> simp[hxt]at this ⊢ <;> (try split) <;> omega
  ·intro a;rw[Bool.eq_iff_iff,Bool.and_eq_true,Fq,Fq,Fq];show dQ (gX x.cust y.cust).kind (gX x.cust y.cust).text a.cust=true/\dh l a.path=true/\((x.tail&&y.tail)=true\/a.path.length=l.length)↔_;rw[Lh hx.cust.part hy.cust.part hm,h4,h2,Bool.and_eq_true,Bool.and_eq_true,Bool.and_eq_true];constructor
   ·rintro⟨⟨e1,e2⟩,⟨e3,e4⟩,e5⟩;refine⟨⟨e1,e3,?_⟩,e2,e4,?_⟩
    ·rcases e5 with e5 | e5
     ·exact .inl e5.1
     ·exact .inr e5
    ·rcases e5 with e5 | e5
     ·exact .inl e5.2
     ·rcases ht with ht | ht
      ·exact .inr aA
      ·exact .inl ht
   ·rintro⟨⟨e1,e3,e5⟩,e2,e4,e6⟩;refine⟨⟨e1,e2⟩,⟨e3,e4⟩,?_⟩;have:=Fp _ _ e3;rcases e5 with e5 | e5
    ·rcases e6 with e6 | e6
     ·exact .inl ⟨e5,e6⟩
     ·exact .inr aA
    ·exact .inr e5
theorem Nj{x y z:Pat}(hx:mg x)(hy:mg y)(h:kL x y=some z):mg z/\∀ a,kJ z a=(kJ x a&&kJ y a):=by
 unfold kL at h;split at h
 ·rename_i hl;obtain⟨h1,h2⟩:=Nh hy hx aA h;exact⟨h1,fun a=>by rw[h2,Bool.and_comm]⟩
 ·rename_i hl;exact Nh hx hy aA h
theorem xn(ps:List bJ):(tu ps).length=ps.length:=by simp[tu]
def Nk:List bJ->List bJ->Bool
 | [],_=>true
 | _ :: _,[]=>false
 | a :: xs,b :: ys=>gW a.kind a.text b.kind b.text&&Nk xs ys
def Fz(x y:Pat):Bool :=
 gW x.cust.kind x.cust.text y.cust.kind y.cust.text&&!decide (y.parts.length<x.parts.length)&&!(decide (x.parts.length<y.parts.length)&&!x.tail)&&!(y.tail&&!x.tail)&&Nk x.parts y.parts
theorem Zx(l:List (List UInt8)):Lib.joinTail [47] l=dO l:=by
 induction l with
 | nil=>rfl
 | cons x l ih =>
  simp only[Lib.joinTail,dO,List.map_cons,List.flatten_cons,List.flatMap_cons]at ih ⊢;rw[ih];rfl
theorem yV(c:ByteArray)(ws:List ByteArray):(kH (c :: ws)).data.toList=c.data.toList++dO (bD ws):=by
 unfold kH bD;rw[List.map_cons,Lib.join_cons,Zx];rfl
theorem Zy(c:ByteArray)(ws:List ByteArray)(hc:47 ∉ c.data.toList)(hw:∀ w∈ws,47 ∉ w.data.toList):splitB 47 (kH (c :: ws))=c :: ws:=by
 unfold splitB;rw[yV,Lc _ _ hc (by
  intro y hy;obtain⟨z,hz,rfl⟩:=List.mem_map.1 hy;exact hw z hz)]
 have:∀ z:ByteArray,(⟨z.data.toList.toArray⟩:ByteArray)=z:=fun z=>dP rfl
 simp[bD,Function.comp_def]
theorem Nl:∀ l:List UInt8,∃ x r,dJ 47 l=x :: r/\l=x++dO r
 | []=>⟨[],[],rfl,rfl⟩
 | b :: l=>by
  obtain⟨x,r,h1,h2⟩:=Nl l;unfold dJ;split
  ·rename_i e;exact⟨[],x :: r,by rw[h1],by rw[e,h2];simp[dO]⟩
  ·rw[h1];exact⟨b :: x,r,rfl,by rw[h2];rfl⟩
theorem Zz(s:ByteArray):kH (splitB 47 s)=s:=by
 obtain⟨x,r,h1,h2⟩:=Nl s.data.toList;unfold splitB;rw[h1,List.map_cons];refine dP ?_;rw[yV];have:bD (r.map fun l=>(⟨l.toArray⟩:ByteArray))=r:=by simp[bD,Function.comp_def]
 rw[this,h2]
theorem qH(k:Nat)(t:ByteArray):(eP k t).data.toList=if k=0 then t.data.toList else 42 :: t.data.toList:=by
 unfold eP;split
 ·rfl
 ·simp
theorem Ba{p:bJ}(hp:iE p):jg (eP p.kind p.text)=true/\dD (eP p.kind p.text)=p/\47 ∉ (eP p.kind p.text).data.toList/\(eP p.kind p.text).data.toList ≠ [42,42]:=by
 obtain⟨k,t⟩:=p;have e:=qH k t;rcases hp with ⟨hk,hw⟩ | ⟨hk,s,hs,hs2,ht⟩ | ⟨hk,ht⟩ <;> dsimp only at * <;> subst hk
 ·have e0:eP 0 t=t:=rfl;rw[e0];refine⟨?_,yU hw,(rH hw).1,fun h=>?_⟩
  ·unfold jg;rw[hw];simp
  ·exact (rH hw).2.2.2.2.1 (by rw[h];simp)
 ·rw[if_neg aK,ht]at e;refine⟨?_,?_,?_,?_⟩
  ·have h2:(eP 1 t).extract 2 (eP 1 t).size=s:=dP (by rw[extract_data,e];rfl);have hz:(eP 1 t).size=s.size+2:=by rw[iL,iL,e];rfl
   unfold jg;rw[h2,hs,e,hz];have h34:decide (s.size+2<=34)=true:=aJ;rw[h34];simp[Lib.hasPrefix]
  ·rw[rY _ e];simp only[List.isEmpty_cons,Bool.false_eq_true,if_false];exact congrArg (bJ.mk 1) (dP ht.symm)
  ·rw[e];have:=(rH hs).1;simp[this]
  ·rw[e];intro h;injection h with _ h;injection h with h _;exact absurd h aK
 ·subst ht;rw[if_neg aK]at e;refine⟨?_,?_,?_,?_⟩
  ·unfold jg;rw[Lib.toList_data,e];rfl
  ·rw[rY _ e];rfl
  ·rw[e];simp
  ·rw[e];simp
theorem Z4{p:bJ}(hp:qA p):iM (eP p.kind p.text)=true:=by
 have e:=qH p.kind p.text;obtain⟨k,t⟩:=p;rcases hp with ⟨hk,hw⟩ | ⟨hk,ht⟩ <;> dsimp only at * <;> subst hk
 ·have e0:eP 0 t=t:=rfl;rw[e0];unfold iM;rw[hw,Bool.or_true]
 ·unfold iM;rw[Lib.toList_data,e,ht];rfl
def jS(b:Bool):List ByteArray:=if b then [⟨#[42,42]⟩] else []
theorem Np:∀(ps acc:List bJ)(b:Bool),(∀ p∈ps,iE p)->dC (dM ps++jS b) acc=some (acc++ps,b)
 | [],acc,b,_=>by
  cases b
  ·simp[dM,jS,dC]
  ·simp only[dM,jS,List.map_nil,List.nil_append,if_true,dC];rw[if_pos (by rw[Lib.toList_data];rfl)];simp
 | p :: ps,acc,b,h=>by
  obtain⟨h1,h2,h3,h4⟩:=Ba (h p aF);have e:dM (p :: ps)++jS b=eP p.kind p.text :: (dM ps++jS b):=rfl;rw[e,dC,if_neg (by rw[Lib.toList_data];simp[h4]),if_pos h1,h2,Np ps _ b fun q hq=>h q (by simp[hq])];simp
theorem yX(z:Pat):ku z=kH (eP z.cust.kind z.cust.text :: (dM z.parts++jS z.tail)):=rfl
theorem Bc(l0:ByteArray)(r:List ByteArray):nV (l0 :: r)=if (decide (r.length<=32)&&iM l0)=true then (dC r []).map fun x=>⟨dD l0,x.1,x.2⟩ else none:=rfl
theorem Nq{z:Pat}(hz:mg z):dF (ku z)=some z:=by
 unfold dF;rw[yX,Zy _ _ (Ba hz.cust.part).2.2.1 (by
  intro w hw;rcases List.mem_append.1 hw with hw | hw
  ·obtain⟨p,hp,rfl⟩:=List.mem_map.1 hw;exact (Ba (hz.parts p hp)).2.2.1
  ·unfold jS at hw;split at hw
   ·rw[List.mem_singleton.1 hw];decide
   ·cases hw)]
 rw[Bc];have hn:=hz.num;have hl:(dM z.parts++jS z.tail).length<=32:=by
  unfold dM jS;rw[List.length_append,List.length_map];cases ht:z.tail <;> simp[ht]at hn ⊢ <;> omega
 rw[if_pos (by rw[Bool.and_eq_true,decide_eq_true_eq];exact⟨hl,Z4 hz.cust⟩),Np _ _ _ hz.parts,(Ba hz.cust.part).2.1];rfl
theorem Nr{w:ByteArray}(h:iM w=true):eP (dD w).kind (dD w).text=w:=by
 unfold iM at h;rw[Bool.or_eq_true,Lib.toList_data,beq_iff_eq]at h;rcases h with h | h
 ·rw[rY [] h];exact dP (by rw[qH,if_neg aK,h];rfl)
 ·rw[yU (oW h)];rfl
theorem Ns{w:ByteArray}(h:jg w=true):eP (dD w).kind (dD w).text=w:=by
 have hf:=Nb h;unfold jg at h;rw[Bool.or_eq_true,Bool.or_eq_true,Lib.toList_data,beq_iff_eq]at h;rcases h with (h | h) | h
 ·rw[rY [] h];exact dP (by rw[qH,if_neg aK,h];rfl)
 ·rw[yU h];rfl
 ·simp only[Bool.and_eq_true,decide_eq_true_eq]at h;obtain⟨⟨h1,h2⟩,h3⟩:=h;obtain⟨r,hr⟩:=Fj h2;rw[rY (46 :: r) hr];exact dP (by simp[qH,hr])
theorem Nu:∀(l:List ByteArray)(acc:List bJ)(r:List bJ × Bool),dC l acc=some r->dM r.1++jS r.2=dM acc++l
 | [],acc,r,e=>by simp[dC]at e;subst e;simp[jS]
 | w :: l,acc,r,e=>by
  rw[dC]at e;split at e
  ·rename_i hc;injection e with e;subst e
   simp only[Bool.and_eq_true,List.isEmpty_iff,Lib.toList_data,beq_iff_eq]at hc;rw[hc.2];have:w=⟨#[42,42]⟩:=dP hc.1;rw[this];rfl
  ·split at e
   ·rename_i hk;rw[Nu l _ r e];unfold dM;rw[List.map_append,List.map_cons,Ns hk];simp
   ·cases e
theorem Nv{q:ByteArray}{y:Pat}(h:dF q=some y):ku y=q:=by
 unfold dF at h;have hj:=Zz q;generalize splitB 47 q=l at h hj;cases l with
 | nil=>cases h
 | cons l0 r =>
  rw[Bc]at h;split at h
  ·rename_i hc;rw[Bool.and_eq_true]at hc;obtain⟨x,hx,rfl⟩:=Option.map_eq_some_iff.1 h;have hb:=Nu r [] x hx;rw[yX];show kH (eP (dD l0).kind (dD l0).text :: (dM x.1++jS x.2))=q;rw[Nr hc.2,hb,<-hj];rfl
  ·cases h
def Nw(z:Pat):ByteArray:=kH (qE z.cust.kind z.cust.text ⟨#[97]⟩ :: tu z.parts)
def Ny:List bJ->List bJ->Option (List ByteArray)
 | [],_=>none
 | _ :: _,[]=>none
 | a :: xs,b :: ys=>if gW a.kind a.text b.kind b.text then (Ny xs ys).map (qE b.kind b.text ⟨#[97]⟩ :: ·) else some (Nz b.kind b.text a.kind a.text :: tu ys)
def N7(x y:Pat):ByteArray :=
 if !gW x.cust.kind x.cust.text y.cust.kind y.cust.text then kH (Nz y.cust.kind y.cust.text x.cust.kind x.cust.text :: tu y.parts)
 else if decide (y.parts.length<x.parts.length)||(decide (x.parts.length<y.parts.length)&&!x.tail) then Nw y
 else if y.tail&&!x.tail then kH (qE y.cust.kind y.cust.text ⟨#[97]⟩ :: (tu y.parts++[⟨#[97]⟩]))
 else match Ny x.parts y.parts with
  | some ws=>kH (qE y.cust.kind y.cust.text ⟨#[97]⟩ :: ws)
  | none=>⟨#[]⟩
def iF(p:ByteArray):Bool:=decide (p.size=0)||(dF p).isSome
def o8(p q:ByteArray):Option ByteArray:=if p.size=0 then some q else if q.size=0 then some p else match dF p,dF q with
 | some x,some y=>(kL x y).map ku
 | _,_=>none
theorem Bd{p:ByteArray}(h:iF p=true)(h0:p.size≠0):∃ x,dF p=some x:=by
 unfold iF at h;rw[Bool.or_eq_true,decide_eq_true_eq]at h;rcases h with h | h
 ·exact absurd h h0
 ·exact Option.isSome_iff_exists.1 h
theorem Z5{p q r:ByteArray}(hp:iF p=true)(hq:iF q=true)(h:o8 p q=some r):iF r=true:=by
 unfold o8 at h;split at h
 ·injection h with h;rw[<-h];exact hq
 ·split at h
  ·injection h with h;rw[<-h];exact hp
  ·rename_i h1 h2;obtain⟨x,hx⟩:=Bd hp h1;obtain⟨y,hy⟩:=Bd hq h2;rw[hx,hy]at h;obtain⟨z,hz,hr⟩:=Option.map_eq_some_iff.1 h;unfold iF;rw[<-hr,Nq (Nj (uG hx) (uG hy) hz).1];simp
theorem N8{p q:ByteArray}{x y:Pat}(h1:p.size≠0)(h2:q.size≠0)(hx:dF p=some x)(hy:dF q=some y):o8 p q=(kL x y).map ku:=by
 unfold o8;rw[if_neg h1,if_neg h2,hx,hy]
section
variable {α:Type}
theorem F7{lt:α->α->Bool}{right:α->Bool}{l:List α}(h:(List.range l.length).all (okK lt right l)=true)(k:Nat)(hk:k<l.length):right l[k]=true/\∀ j,(hj:j+1=k)->lt (l[j]' aA) l[k]=true:=by
 have:=(List.all_eq_true.1 h) k yY;unfold okK at this;rw[List.getElem?_eq_getElem hk]at this;simp only[Bool.and_eq_true]at this;refine⟨this.1,fun j hj=>?_⟩;subst hj;have h2:=this.2;rw[Nat.add_sub_cancel,List.getElem?_eq_getElem (show j<l.length by omega)]at h2;simpa using h2
theorem F8{lt:α->α->Bool}(tr:∀ a b c,lt a b=true->lt b c=true->lt a c=true)(right:α->Bool)(most:Nat)(l:List α):iZ lt right most l=true↔(∀ x∈l,right x=true)/\l.Pairwise (fun a b=>lt a b=true)/\l.length<=most:=by
 unfold iZ;rw[Bool.and_eq_true,decide_eq_true_eq];constructor
 ·rintro⟨h,hm⟩;refine⟨fun x hx=>?_,List.pairwise_iff_getElem.2 fun i j hi hj hij=>?_,hm⟩
  ·obtain⟨k,hk,rfl⟩:=List.getElem_of_mem hx;exact (F7 h k hk).1
  ·have key:∀ d i,(hd:i+d+1<l.length)->lt (l[i]' aA) (l[i+d+1]'hd)=true:=by
    intro d;induction d with
    | zero=>intro i hd;exact (F7 h (i+1) hd).2 i rfl
    | succ d ih=>intro i hd;exact tr _ _ _ (ih i aA) ((F7 h (i+(d+1)+1) hd).2 (i+d+1) aA)
   have:=key (j-i-1) i aA;simpa[show i+(j-i-1)+1=j by omega] using this
 ·rintro⟨h1,h2,h3⟩;refine⟨List.all_eq_true.2 fun k hk=>?_,h3⟩;have hk:k<l.length:=yY;unfold okK;rw[List.getElem?_eq_getElem hk];simp only[Bool.and_eq_true,h1 _ (List.getElem_mem hk),true_and];cases k with
  | zero=>rfl
  | succ k =>
   rw[Nat.add_sub_cancel,List.getElem?_eq_getElem (show k<l.length by omega)];simp[List.pairwise_iff_getElem.1 h2 k (k+1) aA hk aA]
variable [DecidableEq α]
def bM(l:List α)(x:α):Bool:=l.isEmpty||l.contains x
def fU(a b:List α):List α:=(if a.isEmpty then b else a).filter (bM b)
def ig(a b:List α):Bool:=!(fU a b).isEmpty||(if a.isEmpty then b else a).isEmpty
def kz(a b:List α):Option (List α):=if ig a b then some (fU a b) else none
theorem Z7(b:List α):kz [] b=some b:=by
 unfold kz ig fU;have:b.filter (bM b)=b:=List.filter_eq_self.2 fun x hx=>by unfold bM;simp[hx]
 simp[this]
theorem Z9(a:List α):kz a []=some a:=by
 unfold kz ig fU;cases a with
 | nil=>rfl
 | cons x a =>
  have:(x :: a).filter (bM [])=x :: a:=List.filter_eq_self.2 fun y hy=>rfl
  simp[this]
theorem aAa{a b:List α}(ha:a ≠ [])(hb:b ≠ []):kz a b=if (a.filter fun x=>decide (x∈b))=[] then none else some (a.filter fun x=>decide (x∈b)):=by
 have ea:a.isEmpty=false:=F9;have eb:b.isEmpty=false:=by cases b;exact absurd rfl hb;rfl
 have e:a.filter (bM b)=a.filter fun x=>decide (x∈b):=List.filter_congr fun x _=>by unfold bM;rw[eb];simp
 unfold kz ig fU;rw[ea];simp only[Bool.false_eq_true,if_false,e,ea,Bool.or_false];cases h:(a.filter fun x=>decide (x∈b)) with
 | nil=>simp
 | cons x l=>simp
theorem GG{a b s:List α}(h:kz a b=some s):(∀ x,bM s x=(bM a x&&bM b x))/\(s=[]↔a=[]/\b=[])/\s.Sublist (if a.isEmpty then b else a):=by
 by_cases ha:a=[]
 ·subst ha;rw[Z7]at h;injection h with h;subst h
  exact⟨fun x=>by simp[bM],aF,aF⟩
 ·by_cases hb:b=[]
  ·subst hb;rw[Z9]at h;injection h with h;subst h
   have ea:a.isEmpty=false:=F9;exact⟨fun x=>by simp[bM],by simp[ha],by rw[ea];exact List.Sublist.refl _⟩
  ·rw[aAa ha hb]at h;split at h
   ·cases h
   ·rename_i hne;injection h with h;subst h
    have ea:a.isEmpty=false:=F9;have eb:b.isEmpty=false:=by cases b;exact absurd rfl hb;rfl
    have es:(a.filter fun x=>decide (x∈b)).isEmpty=false:=by
     cases h:(a.filter fun x=>decide (x∈b))
     ·exact absurd h hne
     ·rfl
    refine⟨fun x=>?_,by simp[hne,ha],by rw[ea];exact List.filter_sublist⟩;unfold bM;rw[ea,eb,es];simp only[Bool.false_or];rw[Bool.eq_iff_iff];simp
end
def vW(c:aZ):Bool:=decide (0<=c.fr/\c.fr<=1099511627776/\0<=c.till/\c.till<=1099511627777/\0<=c.us/\c.us<=1073741824)
def bG(c:aZ):Bool:=vW c&&iF c.pat&&iZ ltB bI 32 c.cl&&iZ ltB dm 32 c.co&&iZ ltI ed 64 c.si
theorem N9(a b c:ByteArray)(h1:ltB a b=true)(h2:ltB b c=true):ltB a c=true:=by
 unfold ltB at *;rw[decide_eq_true_eq] at *;exact List.lt_trans h1 h2
theorem aAb(a b c:Int)(h1:ltI a b=true)(h2:ltI b c=true):ltI a c=true:=by
 unfold ltI at *;rw[decide_eq_true_eq] at *;omega
structure lC(c:aZ):Prop where
 fr0:0<=c.fr
 fr1:c.fr<=1099511627776
 to0:0<=c.till
 to1:c.till<=1099511627777
 us0:0<=c.us
 us1:c.us<=1073741824
 pat:iF c.pat=true
 cl:∀ x∈c.cl,bI x=true
 clUp:c.cl.Pairwise fun a b=>ltB a b=true
 clLen:c.cl.length<=32
 co:∀ x∈c.co,dm x=true
 coUp:c.co.Pairwise fun a b=>ltB a b=true
 coLen:c.co.length<=32
 si:∀ x∈c.si,ed x=true
 siUp:c.si.Pairwise fun a b=>ltI a b=true
 siLen:c.si.length<=64
theorem mi(c:aZ):bG c=true↔lC c:=by
 unfold bG vW;rw[Bool.and_eq_true,Bool.and_eq_true,Bool.and_eq_true,Bool.and_eq_true,decide_eq_true_eq,F8 N9,F8 N9,F8 aAb];constructor
 ·rintro⟨⟨⟨⟨⟨a1,a2,a3,a4,a5,a6⟩,b⟩,c1,c2,c3⟩,d1,d2,d3⟩,e1,e2,e3⟩;exact⟨a1,a2,a3,a4,a5,a6,b,c1,c2,c3,d1,d2,d3,e1,e2,e3⟩
 ·rintro⟨a1,a2,a3,a4,a5,a6,b,c1,c2,c3,d1,d2,d3,e1,e2,e3⟩;exact⟨⟨⟨⟨⟨a1,a2,a3,a4,a5,a6⟩,b⟩,c1,c2,c3⟩,d1,d2,d3⟩,e1,e2,e3⟩
def gY(a b:Int):Int:=if 0<a/\0<b then min a b else max a b
def vX(a b:aZ):Option aZ:=(o8 a.pat b.pat).bind fun p=>(kz a.cl b.cl).bind fun cl=>(kz a.co b.co).bind fun co=>(kz a.si b.si).bind fun si =>
 if max a.fr b.fr<min a.till b.till then some ⟨max a.fr b.fr,min a.till b.till,p,cl,co,si,gY a.us b.us⟩ else none
def jT(a b:aZ):aZ:=(vX a b).getD fV
theorem aAc{a b s:aZ}:vX a b=some s↔o8 a.pat b.pat=some s.pat/\kz a.cl b.cl=some s.cl/\kz a.co b.co=some s.co/\kz a.si b.si=some s.si/\max a.fr b.fr<min a.till b.till/\s.fr=max a.fr b.fr/\s.till=min a.till b.till/\s.us=gY a.us b.us:=by
 unfold vX;constructor
 ·intro h;obtain⟨p,h1,h⟩:=Option.bind_eq_some_iff.1 h;obtain⟨cl,h2,h⟩:=Option.bind_eq_some_iff.1 h;obtain⟨co,h3,h⟩:=Option.bind_eq_some_iff.1 h;obtain⟨si,h4,h⟩:=Option.bind_eq_some_iff.1 h;split at h
  ·rename_i hlt;injection h with h
   subst h;exact⟨h1,h2,h3,h4,hlt,rfl,rfl,rfl⟩
  ·cases h
 ·rintro⟨h1,h2,h3,h4,h5,h6,h7,h8⟩;rw[h1,Option.bind_some,h2,Option.bind_some,h3,Option.bind_some,h4,Option.bind_some,if_pos h5,<-h6,<-h7,<-h8]
theorem aAd{a b s:aZ}(ha:lC a)(hb:lC b)(h:vX a b=some s):lC s/\s.fr<s.till:=by
 obtain⟨h1,h2,h3,h4,h5,h6,h7,h8⟩:=aAc.1 h;have m1:=(GG h2).2.2;have m2:=(GG h3).2.2;have m3:=(GG h4).2.2;refine⟨?_,aA⟩;have a0:=ha.fr0;have a1:=ha.fr1;have a2:=ha.to0;have a3:=ha.to1;have a4:=ha.us0;have a5:=ha.us1;have b0:=hb.fr0;have b1:=hb.fr1;have b2:=hb.to0;have b3:=hb.to1;have b4:=hb.us0;have b5:=hb.us1;have hu:0<=gY a.us b.us/\gY a.us b.us<=1073741824:=by unfold gY;split <;> omega
 refine⟨aA,aA,aA,aA,aA,aA,Z5 ha.pat hb.pat h1,?_,?_,?_,?_,?_,?_,?_,?_,?_⟩
 ·split at m1
  ·exact fun x hx=>hb.cl x (m1.subset hx)
  ·exact fun x hx=>ha.cl x (m1.subset hx)
 ·split at m1
  ·exact hb.clUp.sublist m1
  ·exact ha.clUp.sublist m1
 ·split at m1
  ·exact Nat.le_trans m1.length_le hb.clLen
  ·exact Nat.le_trans m1.length_le ha.clLen
 ·split at m2
  ·exact fun x hx=>hb.co x (m2.subset hx)
  ·exact fun x hx=>ha.co x (m2.subset hx)
 ·split at m2
  ·exact hb.coUp.sublist m2
  ·exact ha.coUp.sublist m2
 ·split at m2
  ·exact Nat.le_trans m2.length_le hb.coLen
  ·exact Nat.le_trans m2.length_le ha.coLen
 ·split at m3
  ·exact fun x hx=>hb.si x (m3.subset hx)
  ·exact fun x hx=>ha.si x (m3.subset hx)
 ·split at m3
  ·exact hb.siUp.sublist m3
  ·exact ha.siUp.sublist m3
 ·split at m3
  ·exact Nat.le_trans m3.length_le hb.siLen
  ·exact Nat.le_trans m3.length_le ha.siLen
theorem OB:lC fV:=by
 refine⟨aK,aK,aK,aK,aK,aK,rfl,?_,?_,?_,?_,?_,?_,?_,?_,?_⟩ <;> simp[fV]
theorem aAe{a b:aZ}(ha:lC a)(hb:lC b):lC (jT a b):=by
 unfold jT;cases h:vX a b with
 | none=>exact OB
 | some s=>exact (aAd ha hb h).1
def lD(p:ByteArray):ByteArray:=if p.size=0 then ⟨#[42,47,42,42]⟩ else p
theorem OC(a b:ByteArray):(!(Op.bytesLess a.toList b.toList||a.toList==b.toList))=decide (b.data.toList<a.data.toList):=by
 exact OD
theorem OE(qs:List (ByteArray × ByteArray))(k:Nat)(hk:k<qs.length):iG qs k=true↔bI qs[k].1=true/\bC qs[k].2=true/\(k=0\/∃ h:k-1<qs.length,qs[k-1].1.data.toList<qs[k].1.data.toList):=by
 unfold iG;rw[List.getElem?_eq_getElem hk];simp only[Bool.and_eq_true,Bool.or_eq_true,beq_iff_eq];have hk1:k-1<qs.length:=aA;rw[List.getElem?_eq_getElem hk1];simp only[Option.getD_some];rw[OC,decide_eq_true_eq];constructor
 ·rintro⟨⟨h1,h2⟩,h3⟩;exact⟨h1,h2,h3.imp id fun h=>⟨hk1,h⟩⟩
 ·rintro⟨h1,h2,h3⟩;exact⟨⟨h1,h2⟩,h3.imp id fun ⟨_,h⟩=>h⟩
theorem OG(c:ByteArray)(xs:List ByteArray)(qs:List (ByteArray × ByteArray)):kM c xs qs=true↔GH ⟨c,xs,qs⟩/\(W06 c xs qs).length<=4096:=by
 unfold kM uH;simp only[Bool.and_eq_true,decide_eq_true_eq,List.all_eq_true,List.mem_range];constructor
 ·rintro⟨⟨⟨⟨⟨h1,h2⟩,h3⟩,h4⟩,h5⟩,h6⟩;have hat:=fun k hk=>(OE qs k hk).1 (h5 k hk)
  refine⟨⟨h1,h4,h2,h3,?_,?_⟩,h6⟩
  ·intro q hq;obtain⟨k,hk,rfl⟩:=List.getElem_of_mem hq;exact⟨(hat k hk).1,(hat k hk).2.1⟩
  ·unfold GI;rw[List.pairwise_iff_getElem];intro i j;induction j with
   | zero=>intro _ _ h;omega
   | succ j ih =>
    intro hi hj hij;rcases (hat (j+1) hj).2.2 with h | ⟨h,h7⟩
    ·omega
    ·have e:j+1-1=j:=rfl;simp only[e]at h7;by_cases hij2:i=j
     ·subst hij2;exact h7
     ·exact List.lt_trans (ih hi aA aA) h7
 ·rintro⟨⟨h1,h4,h2,h3,h5,h7⟩,h6⟩;refine⟨⟨⟨⟨⟨h1,h2⟩,h3⟩,h4⟩,fun k hk=>?_⟩,h6⟩;rw[OE qs k hk];have hq:=h5 qs[k] (List.getElem_mem hk);refine⟨hq.1,hq.2,?_⟩;by_cases h0:k=0
  ·exact .inl h0
  ·have hk1:k-1<qs.length:=aA;exact .inr ⟨hk1,List.pairwise_iff_getElem.1 h7 (k-1) k hk1 hk aA⟩
section
variable {c:ByteArray} {ws:List ByteArray} (hc:bI c=true) (hw:∀ w∈ws,bC w=true) (hn:ws.length<=32)
include hc hw hn
end
end Go.Proofs.YtlkbkclnbppigaaGreatDoor
