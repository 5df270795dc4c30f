/- Plain: what patterns match, cover and have in common; the string of a pattern. -/
import Derived.Test.YtlkbkclnbppigaaGreatDoorIZ17
namespace Go.Proofs.YtlkbkclnbppigaaGreatDoor
open Go.RowKit Go.Sort
set_option linter.unusedVariables false
set_option linter.unusedSimpArgs false
set_option maxRecDepth 100000
structure PatFit (x:Pat):Prop where
 cust:CustFit x.cust
 parts:∀ p∈x.parts,PartFit p
 num:x.parts.length+(if x.tail then 1 else 0)≤32
theorem extract_data (s:ByteArray) (i:Nat):(s.extract i s.size).data.toList=s.data.toList.drop i:=by
 rw[Lib.extract_to_end]
theorem extract_head (s:ByteArray):(s.extract 0 1).data.toList=s.data.toList.take 1:=by
 rw[Lib.extract_data];simp
theorem partOf_word {w:ByteArray} (h:isWordB w=true):partOfP w=⟨0,w⟩:=by
 obtain⟨h1,_⟩:=word_ne h
 have h42:=(word_no h).2.2.2.2.1
 unfold partOfP
 split
 ·rfl
 ·rw[if_pos]
  rw[Lib.toList_data,extract_head]
  obtain⟨b,l,hl⟩:=List.exists_cons_of_ne_nil h1
  rw[hl]at h42 ⊢
  simp only[List.mem_cons,not_or]at h42
  simp only[List.take_succ_cons,List.take_zero,Bool.not_eq_true',beq_eq_false_iff_ne,ne_eq,List.cons.injEq,and_true]
  exact fun e=>h42.1 e.symm
theorem partOf_star {w:ByteArray} (r:List UInt8) (h:w.data.toList=42 :: r):partOfP w=if r.isEmpty then ⟨2,⟨#[]⟩⟩ else ⟨1,⟨r.toArray⟩⟩:=by
 have hz:w.size=r.length+1:=by rw[size_data,h];rfl
 have e1:(w.extract 0 1).toList=[42]:=by rw[Lib.toList_data,extract_head,h];rfl
 have e2:(w.extract 1 w.size).data.toList=r:=by rw[extract_data,h];rfl
 have e3:w.extract 1 w.size=⟨r.toArray⟩:=bytes_ext (by rw[e2])
 unfold partOfP
 rw[if_neg (by omega),e1,e3,Lib.toList_data]
 simp only[BEq.rfl,Bool.not_true,Bool.false_eq_true,if_false]
 cases r <;> rfl
theorem star_fit:PartFit ⟨2,⟨#[]⟩⟩:=.inr (.inr ⟨rfl,rfl⟩)
theorem headOk_fit {w:ByteArray} (h:headOkB w=true):CustFit (partOfP w):=by
 unfold headOkB at h
 rw[Bool.or_eq_true,Lib.toList_data,beq_iff_eq]at h
 rcases h with h | h
 ·rw[partOf_star [] h];exact .inr ⟨rfl,rfl⟩
 ·rw[partOf_word (name_word h)];exact .inl ⟨rfl,h⟩
theorem prefix_two {l:List UInt8} (h:Lib.hasPrefix l [42,46]=true):∃ r,l=42 :: 46 :: r:=by
 unfold Lib.hasPrefix at h
 rw[List.isPrefixOf_iff_prefix]at h
 obtain⟨r,hr⟩:=h
 exact⟨r,hr.symm⟩
theorem partOk_fit {w:ByteArray} (h:partOkB w=true):PartFit (partOfP w):=by
 unfold partOkB at h
 rw[Bool.or_eq_true,Bool.or_eq_true,Lib.toList_data,beq_iff_eq]at h
 rcases h with (h | h) | h
 ·rw[partOf_star [] h];exact star_fit
 ·rw[partOf_word h];exact .inl ⟨rfl,h⟩
 ·simp only[Bool.and_eq_true,decide_eq_true_eq]at h
  obtain⟨⟨h1,h2⟩,h3⟩:=h
  obtain⟨r,hr⟩:=prefix_two h2
  rw[partOf_star (46 :: r) hr]
  have e:(w.extract 2 w.size).data.toList=r:=by rw[extract_data,hr];rfl
  have hz:w.size=r.length+2:=by rw[size_data,hr];rfl
  refine .inr (.inl ⟨rfl,w.extract 2 w.size,h3,?_,?_⟩)
  ·rw[size_data,e];omega
  ·show (46 :: r)=46 :: _
   rw[e]
theorem cmpL_fit:∀ (l:List ByteArray) (acc:List Part) (r:List Part × Bool),(∀ p∈acc,PartFit p)→cmpL l acc=some r→(∀ p∈r.1,PartFit p)∧r.1.length+(if r.2 then 1 else 0)=acc.length+l.length
 | [],acc,r,h,e=>by simp[cmpL]at e;subst e;exact⟨h,by simp⟩
 | w :: l,acc,r,h,e=>by
  rw[cmpL]at e
  split at e
  ·rename_i hc
   injection e with e;subst e
   simp only[Bool.and_eq_true,List.isEmpty_iff]at hc
   exact⟨h,by simp[hc.2]⟩
  ·split at e
   ·rename_i hk
    have:=cmpL_fit l (acc++[partOfP w]) r (fun p hp=>by
     rcases List.mem_append.1 hp with hp | hp
     ·exact h p hp
     ·rw[List.mem_singleton.1 hp];exact partOk_fit hk) e
    exact⟨this.1,by rw[this.2];simp;omega⟩
   ·cases e
theorem compL_fit {l:List ByteArray} {x:Pat} (h:compL l=some x):PatFit x:=by
 cases l with
 | nil=>cases h
 | cons l0 r =>
  rw[compL]at h
  by_cases hc:(decide (r.length≤32)&&headOkB l0)=true
  ·have hc2:=hc
   rw[Bool.and_eq_true,decide_eq_true_eq]at hc2
   rw[if_pos hc]at h
   obtain⟨y,hy,rfl⟩:=Option.map_eq_some_iff.1 h
   have:=cmpL_fit r [] y (fun p hp=>by cases hp) hy
   exact⟨headOk_fit hc2.2,this.1,by show y.1.length+(if y.2=true then 1 else 0)≤32;have h1:=hc2.1;have h2:=this.2;simp at h2;omega⟩
  ·rw[if_neg (by simpa using hc)]at h;cases h
theorem compile_fit {s:ByteArray} {x:Pat} (h:compileB s=some x):PatFit x:=compL_fit h
theorem matchesL_len:∀ (ps:List Part) (ws:List ByteArray),matchesL ps ws=true→ps.length≤ws.length
 | [],_,_=>by simp
 | p :: ps,[],h=>by simp[matchesL]at h
 | p :: ps,w :: ws,h=>by
  simp only[matchesL,Bool.and_eq_true]at h
  have:=matchesL_len ps ws h.2
  simpa using this
theorem matchP_iff (x:Pat) (a:Adr):matchP x a=true↔hasP x.cust.kind x.cust.text a.cust=true∧matchesL x.parts a.path=true∧(x.tail=true∨a.path.length=x.parts.length):=by
 unfold matchP
 have key:matchesL x.parts a.path=true→((!decide (a.path.length<x.parts.length)&&!(decide (x.parts.length<a.path.length)&&!x.tail))=true↔(x.tail=true∨a.path.length=x.parts.length)):=by
  intro h
  have:=matchesL_len _ _ h
  cases x.tail <;> simp <;> omega
 cases h1:hasP x.cust.kind x.cust.text a.cust
 ·simp
 ·cases h2:matchesL x.parts a.path
  ·simp
  ·have:=key h2
   rw[←this]
   simp
theorem mtL_some:∀ (xs ys acc r:List Part),(∀ p∈xs,PartFit p)→(∀ p∈ys,PartFit p)→ys.length≤xs.length→mtL acc xs ys=some r →
  ∃ r',r=acc++r'∧r'.length=xs.length∧(∀ p∈r',PartFit p)∧∀ ws,matchesL r' ws=(matchesL xs ws&&matchesL ys ws)
 | [],[],acc,r,_,_,_,e=>by
  simp[mtL]at e;subst e
  exact⟨[],by simp,rfl,by simp,fun ws=>by simp[matchesL]⟩
 | [],b :: ys,acc,r,_,_,hl,_=>by simp at hl
 | a :: xs,[],acc,r,hx,hy,_,e=>by
  rw[mtL]at e
  obtain⟨r',h1,h2,h3,h4⟩:=mtL_some xs [] (acc++[a]) r (fun p hp=>hx p (by simp[hp])) hy (by simp) e
  refine⟨a :: r',by rw[h1];simp,by simp[h2],?_,fun ws=>?_⟩
  ·intro p hp
   rcases List.mem_cons.1 hp with rfl | hp
   ·exact hx p (by simp)
   ·exact h3 p hp
  ·cases ws with
   | nil=>simp[matchesL]
   | cons w ws =>
    have:=h4 ws
    simp only[matchesL,Bool.and_true]at this ⊢
    rw[this]
 | a :: xs,b :: ys,acc,r,hx,hy,hl,e=>by
  rw[mtL]at e
  split at e
  ·rename_i hm
   have ha:=hx a (by simp)
   have hb:=hy b (by simp)
   obtain⟨r',h1,h2,h3,h4⟩:=mtL_some xs ys (acc++[meetP a b]) r (fun p hp=>hx p (by simp[hp])) (fun p hp=>hy p (by simp[hp])) (by simpa using hl) e
   refine⟨meetP a b :: r',by rw[h1];simp,by simp[h2],?_,fun ws=>?_⟩
   ·intro p hp
    rcases List.mem_cons.1 hp with rfl | hp
    ·exact meetP_fit ha hb
    ·exact h3 p hp
   ·cases ws with
    | nil=>simp[matchesL]
    | cons w ws =>
     simp only[matchesL]
     rw[h4 ws,meets_has ha hb hm w]
     cases hasP a.kind a.text w <;> cases hasP b.kind b.text w <;> cases matchesL xs ws <;> rfl
  ·cases e
theorem commonO_some {x y z:Pat} (hx:PatFit x) (hy:PatFit y) (hl:y.parts.length≤x.parts.length) (h:commonO x y=some z):PatFit z∧∀ a,matchP z a=(matchP x a&&matchP y a):=by
 unfold commonO at h
 split at h
 ·cases h
 ·rename_i hc
  obtain⟨l,hl2,rfl⟩:=Option.map_eq_some_iff.1 h
  simp only[Bool.not_eq_true,Bool.or_eq_false_iff,Bool.not_eq_false',Bool.and_eq_false_iff,decide_eq_false_iff_not,Bool.not_eq_eq_eq_not,Bool.not_false]at hc
  obtain⟨hm,ht⟩:=hc
  obtain⟨r',h1,h2,h3,h4⟩:=mtL_some _ _ [] l hx.parts hy.parts hl hl2
  rw[List.nil_append]at h1;subst h1
  constructor
  ·refine⟨meetP_cust hx.cust hy.cust,h3,?_⟩
   show l.length+_≤32
   rw[h2]
   have:=hx.num
   cases hxt:x.tail <;> simp[hxt]at this ⊢ <;> (try split) <;> omega
  ·intro a
   rw[Bool.eq_iff_iff,Bool.and_eq_true,matchP_iff,matchP_iff,matchP_iff]
   show hasP (meetP x.cust y.cust).kind (meetP x.cust y.cust).text a.cust=true∧matchesL l a.path=true∧((x.tail&&y.tail)=true∨a.path.length=l.length)↔_
   rw[meets_has hx.cust.part hy.cust.part hm,h4,h2,Bool.and_eq_true,Bool.and_eq_true,Bool.and_eq_true]
   constructor
   ·rintro⟨⟨e1,e2⟩,⟨e3,e4⟩,e5⟩
    refine⟨⟨e1,e3,?_⟩,e2,e4,?_⟩
    ·rcases e5 with e5 | e5
     ·exact .inl e5.1
     ·exact .inr e5
    ·rcases e5 with e5 | e5
     ·exact .inl e5.2
     ·rcases ht with ht | ht
      ·exact .inr (by omega)
      ·exact .inl ht
   ·rintro⟨⟨e1,e3,e5⟩,e2,e4,e6⟩
    refine⟨⟨e1,e2⟩,⟨e3,e4⟩,?_⟩
    have:=matchesL_len _ _ e3
    rcases e5 with e5 | e5
    ·rcases e6 with e6 | e6
     ·exact .inl ⟨e5,e6⟩
     ·exact .inr (by omega)
    ·exact .inr e5
theorem commonP_some {x y z:Pat} (hx:PatFit x) (hy:PatFit y) (h:commonP x y=some z):PatFit z∧∀ a,matchP z a=(matchP x a&&matchP y a):=by
 unfold commonP at h
 split at h
 ·rename_i hl
  obtain⟨h1,h2⟩:=commonO_some hy hx (by omega) h
  exact⟨h1,fun a=>by rw[h2,Bool.and_comm]⟩
 ·rename_i hl
  exact commonO_some hx hy (by omega) h
theorem words_len (ps:List Part):(wordsL ps).length=ps.length:=by simp[wordsL]
def coverL:List Part→List Part→Bool
 | [],_=>true
 | _ :: _,[]=>false
 | a :: xs,b :: ys=>coversP a.kind a.text b.kind b.text&&coverL xs ys
def coverB (x y:Pat):Bool :=
 coversP x.cust.kind x.cust.text y.cust.kind y.cust.text&&!decide (y.parts.length<x.parts.length)&&!(decide (x.parts.length<y.parts.length)&&!x.tail)&&!(y.tail&&!x.tail)&&coverL x.parts y.parts
theorem tail_path (l:List (List UInt8)):Lib.joinTail [47] l=pathL l:=by
 induction l with
 | nil=>rfl
 | cons x l ih =>
  simp only[Lib.joinTail,pathL,List.map_cons,List.flatten_cons,List.flatMap_cons]at ih ⊢
  rw[ih];rfl
theorem join_data (c:ByteArray) (ws:List ByteArray):(joinS (c :: ws)).data.toList=c.data.toList++pathL (lists ws):=by
 unfold joinS lists
 rw[List.map_cons,Lib.join_cons,tail_path]
 rfl
theorem split_join (c:ByteArray) (ws:List ByteArray) (hc:47 ∉ c.data.toList) (hw:∀ w∈ws,47 ∉ w.data.toList):splitB 47 (joinS (c :: ws))=c :: ws:=by
 unfold splitB
 rw[join_data,split_path _ _ hc (by
  intro y hy
  obtain⟨z,hz,rfl⟩:=List.mem_map.1 hy
  exact hw z hz)]
 have:∀ z:ByteArray,(⟨z.data.toList.toArray⟩:ByteArray)=z:=fun z=>bytes_ext rfl
 simp[lists,Function.comp_def]
theorem split_back:∀ l:List UInt8,∃ x r,splitL 47 l=x :: r∧l=x++pathL r
 | []=>⟨[],[],rfl,rfl⟩
 | b :: l=>by
  obtain⟨x,r,h1,h2⟩:=split_back l
  unfold splitL
  split
  ·rename_i e
   exact⟨[],x :: r,by rw[h1],by rw[e,h2];simp[pathL]⟩
  ·rw[h1]
   exact⟨b :: x,r,rfl,by rw[h2];rfl⟩
theorem join_split (s:ByteArray):joinS (splitB 47 s)=s:=by
 obtain⟨x,r,h1,h2⟩:=split_back s.data.toList
 unfold splitB
 rw[h1,List.map_cons]
 refine bytes_ext ?_
 rw[join_data]
 have:lists (r.map fun l=>(⟨l.toArray⟩:ByteArray))=r:=by simp[lists,Function.comp_def]
 rw[this,h2]
theorem str_data (k:Nat) (t:ByteArray):(stringP k t).data.toList=if k=0 then t.data.toList else 42 :: t.data.toList:=by
 unfold stringP
 split
 ·rfl
 ·simp
theorem str_fit {p:Part} (hp:PartFit p):partOkB (stringP p.kind p.text)=true∧partOfP (stringP p.kind p.text)=p∧47 ∉ (stringP p.kind p.text).data.toList∧(stringP p.kind p.text).data.toList ≠ [42,42]:=by
 obtain⟨k,t⟩:=p
 have e:=str_data k t
 rcases hp with ⟨hk,hw⟩ | ⟨hk,s,hs,hs2,ht⟩ | ⟨hk,ht⟩ <;> dsimp only at * <;> subst hk
 ·have e0:stringP 0 t=t:=rfl
  rw[e0]
  refine⟨?_,partOf_word hw,(word_no hw).1,fun h=>?_⟩
  ·unfold partOkB;rw[hw];simp
  ·exact (word_no hw).2.2.2.2.1 (by rw[h];simp)
 ·rw[if_neg (by decide),ht]at e
  refine⟨?_,?_,?_,?_⟩
  ·have h2:(stringP 1 t).extract 2 (stringP 1 t).size=s:=bytes_ext (by rw[extract_data,e];rfl)
   have hz:(stringP 1 t).size=s.size+2:=by rw[size_data,size_data,e];rfl
   unfold partOkB
   rw[h2,hs,e,hz]
   have h34:decide (s.size+2≤34)=true:=by simp;omega
   rw[h34]
   simp[Lib.hasPrefix]
  ·rw[partOf_star _ e]
   simp only[List.isEmpty_cons,Bool.false_eq_true,if_false]
   exact congrArg (Part.mk 1) (bytes_ext ht.symm)
  ·rw[e]
   have:=(word_no hs).1
   simp[this]
  ·rw[e];intro h;injection h with _ h;injection h with h _;exact absurd h (by decide)
 ·subst ht
  rw[if_neg (by decide)]at e
  refine⟨?_,?_,?_,?_⟩
  ·unfold partOkB;rw[Lib.toList_data,e];rfl
  ·rw[partOf_star _ e];rfl
  ·rw[e];simp
  ·rw[e];simp
theorem str_cust {p:Part} (hp:CustFit p):headOkB (stringP p.kind p.text)=true:=by
 have e:=str_data p.kind p.text
 obtain⟨k,t⟩:=p
 rcases hp with ⟨hk,hw⟩ | ⟨hk,ht⟩ <;> dsimp only at * <;> subst hk
 ·have e0:stringP 0 t=t:=rfl
  rw[e0];unfold headOkB;rw[hw,Bool.or_true]
 ·unfold headOkB
  rw[Lib.toList_data,e,ht];rfl
def tailL (b:Bool):List ByteArray:=if b then [⟨#[42,42]⟩] else []
theorem cmpL_str:∀ (ps acc:List Part) (b:Bool),(∀ p∈ps,PartFit p)→cmpL (strL ps++tailL b) acc=some (acc++ps,b)
 | [],acc,b,_=>by
  cases b
  ·simp[strL,tailL,cmpL]
  ·simp only[strL,tailL,List.map_nil,List.nil_append,if_true,cmpL]
   rw[if_pos (by rw[Lib.toList_data];rfl)]
   simp
 | p :: ps,acc,b,h=>by
  obtain⟨h1,h2,h3,h4⟩:=str_fit (h p (by simp))
  have e:strL (p :: ps)++tailL b=stringP p.kind p.text :: (strL ps++tailL b):=rfl
  rw[e,cmpL,if_neg (by rw[Lib.toList_data];simp[h4]),if_pos h1,h2,cmpL_str ps _ b fun q hq=>h q (by simp[hq])]
  simp
theorem patS_eq (z:Pat):patS z=joinS (stringP z.cust.kind z.cust.text :: (strL z.parts++tailL z.tail)):=rfl
theorem compL_cons (l0:ByteArray) (r:List ByteArray):compL (l0 :: r)=if (decide (r.length≤32)&&headOkB l0)=true then (cmpL r []).map fun x=>⟨partOfP l0,x.1,x.2⟩ else none:=rfl
theorem compile_str {z:Pat} (hz:PatFit z):compileB (patS z)=some z:=by
 unfold compileB
 rw[patS_eq,split_join _ _ (str_fit hz.cust.part).2.2.1 (by
  intro w hw
  rcases List.mem_append.1 hw with hw | hw
  ·obtain⟨p,hp,rfl⟩:=List.mem_map.1 hw
   exact (str_fit (hz.parts p hp)).2.2.1
  ·unfold tailL at hw
   split at hw
   ·rw[List.mem_singleton.1 hw];decide
   ·cases hw)]
 rw[compL_cons]
 have hn:=hz.num
 have hl:(strL z.parts++tailL z.tail).length≤32:=by
  unfold strL tailL
  rw[List.length_append,List.length_map]
  cases ht:z.tail <;> simp[ht]at hn ⊢ <;> omega
 rw[if_pos (by rw[Bool.and_eq_true,decide_eq_true_eq];exact⟨hl,str_cust hz.cust⟩),cmpL_str _ _ _ hz.parts,(str_fit hz.cust.part).2.1]
 rfl
theorem str_head {w:ByteArray} (h:headOkB w=true):stringP (partOfP w).kind (partOfP w).text=w:=by
 unfold headOkB at h
 rw[Bool.or_eq_true,Lib.toList_data,beq_iff_eq]at h
 rcases h with h | h
 ·rw[partOf_star [] h]
  exact bytes_ext (by rw[str_data,if_neg (by decide),h];rfl)
 ·rw[partOf_word (name_word h)];rfl
theorem str_part {w:ByteArray} (h:partOkB w=true):stringP (partOfP w).kind (partOfP w).text=w:=by
 have hf:=partOk_fit h
 unfold partOkB at h
 rw[Bool.or_eq_true,Bool.or_eq_true,Lib.toList_data,beq_iff_eq]at h
 rcases h with (h | h) | h
 ·rw[partOf_star [] h]
  exact bytes_ext (by rw[str_data,if_neg (by decide),h];rfl)
 ·rw[partOf_word h];rfl
 ·simp only[Bool.and_eq_true,decide_eq_true_eq]at h
  obtain⟨⟨h1,h2⟩,h3⟩:=h
  obtain⟨r,hr⟩:=prefix_two h2
  rw[partOf_star (46 :: r) hr]
  exact bytes_ext (by simp[str_data,hr])
theorem strL_back:∀ (l:List ByteArray) (acc:List Part) (r:List Part × Bool),cmpL l acc=some r→strL r.1++tailL r.2=strL acc++l
 | [],acc,r,e=>by simp[cmpL]at e;subst e;simp[tailL]
 | w :: l,acc,r,e=>by
  rw[cmpL]at e
  split at e
  ·rename_i hc
   injection e with e;subst e
   simp only[Bool.and_eq_true,List.isEmpty_iff,Lib.toList_data,beq_iff_eq]at hc
   rw[hc.2]
   have:w=⟨#[42,42]⟩:=bytes_ext hc.1
   rw[this];rfl
  ·split at e
   ·rename_i hk
    rw[strL_back l _ r e]
    unfold strL
    rw[List.map_append,List.map_cons,str_part hk]
    simp
   ·cases e
theorem str_compile {q:ByteArray} {y:Pat} (h:compileB q=some y):patS y=q:=by
 unfold compileB at h
 have hj:=join_split q
 generalize splitB 47 q=l at h hj
 cases l with
 | nil=>cases h
 | cons l0 r =>
  rw[compL_cons]at h
  split at h
  ·rename_i hc
   rw[Bool.and_eq_true]at hc
   obtain⟨x,hx,rfl⟩:=Option.map_eq_some_iff.1 h
   have hb:=strL_back r [] x hx
   rw[patS_eq]
   show joinS (stringP (partOfP l0).kind (partOfP l0).text :: (strL x.1++tailL x.2))=q
   rw[str_head hc.2,hb,←hj]
   rfl
  ·cases h
def exText (z:Pat):ByteArray:=joinS (withP z.cust.kind z.cust.text ⟨#[97]⟩ :: wordsL z.parts)
def badL:List Part→List Part→Option (List ByteArray)
 | [],_=>none
 | _ :: _,[]=>none
 | a :: xs,b :: ys=>if coversP a.kind a.text b.kind b.text then (badL xs ys).map (withP b.kind b.text ⟨#[97]⟩ :: ·) else some (withoutP b.kind b.text a.kind a.text :: wordsL ys)
def coverW (x y:Pat):ByteArray :=
 if !coversP x.cust.kind x.cust.text y.cust.kind y.cust.text then joinS (withoutP y.cust.kind y.cust.text x.cust.kind x.cust.text :: wordsL y.parts)
 else if decide (y.parts.length<x.parts.length)||(decide (x.parts.length<y.parts.length)&&!x.tail) then exText y
 else if y.tail&&!x.tail then joinS (withP y.cust.kind y.cust.text ⟨#[97]⟩ :: (wordsL y.parts++[⟨#[97]⟩]))
 else match badL x.parts y.parts with
  | some ws=>joinS (withP y.cust.kind y.cust.text ⟨#[97]⟩ :: ws)
  | none=>⟨#[]⟩
def patOk (p:ByteArray):Bool:=decide (p.size=0)||(compileB p).isSome
def pmeet (p q:ByteArray):Option ByteArray:=if p.size=0 then some q else if q.size=0 then some p else match compileB p,compileB q with
 | some x,some y=>(commonP x y).map patS
 | _,_=>none
theorem patOk_some {p:ByteArray} (h:patOk p=true) (h0:p.size≠0):∃ x,compileB p=some x:=by
 unfold patOk at h
 rw[Bool.or_eq_true,decide_eq_true_eq]at h
 rcases h with h | h
 ·exact absurd h h0
 ·exact Option.isSome_iff_exists.1 h
theorem pmeet_ok {p q r:ByteArray} (hp:patOk p=true) (hq:patOk q=true) (h:pmeet p q=some r):patOk r=true:=by
 unfold pmeet at h
 split at h
 ·injection h with h;rw[←h];exact hq
 ·split at h
  ·injection h with h;rw[←h];exact hp
  ·rename_i h1 h2
   obtain⟨x,hx⟩:=patOk_some hp h1
   obtain⟨y,hy⟩:=patOk_some hq h2
   rw[hx,hy]at h
   obtain⟨z,hz,hr⟩:=Option.map_eq_some_iff.1 h
   unfold patOk
   rw[←hr,compile_str (commonP_some (compile_fit hx) (compile_fit hy) hz).1]
   simp
theorem pmeet_two {p q:ByteArray} {x y:Pat} (h1:p.size≠0) (h2:q.size≠0) (hx:compileB p=some x) (hy:compileB q=some y):pmeet p q=(commonP x y).map patS:=by
 unfold pmeet
 rw[if_neg h1,if_neg h2,hx,hy]
section
variable {α:Type}
theorem okK_at {lt:α→α→Bool} {right:α→Bool} {l:List α} (h:(List.range l.length).all (okK lt right l)=true) (k:Nat) (hk:k<l.length):right l[k]=true∧∀ j,(hj:j+1=k)→lt (l[j]'(by omega)) l[k]=true:=by
 have:=(List.all_eq_true.1 h) k (by simpa using hk)
 unfold okK at this
 rw[List.getElem?_eq_getElem hk]at this
 simp only[Bool.and_eq_true]at this
 refine⟨this.1,fun j hj=>?_⟩
 subst hj
 have h2:=this.2
 rw[Nat.add_sub_cancel,List.getElem?_eq_getElem (show j<l.length by omega)]at h2
 simpa using h2
theorem setB_iff {lt:α→α→Bool} (tr:∀ a b c,lt a b=true→lt b c=true→lt a c=true) (right:α→Bool) (most:Nat) (l:List α):setB lt right most l=true↔(∀ x∈l,right x=true)∧l.Pairwise (fun a b=>lt a b=true)∧l.length≤most:=by
 unfold setB
 rw[Bool.and_eq_true,decide_eq_true_eq]
 constructor
 ·rintro⟨h,hm⟩
  refine⟨fun x hx=>?_,List.pairwise_iff_getElem.2 fun i j hi hj hij=>?_,hm⟩
  ·obtain⟨k,hk,rfl⟩:=List.getElem_of_mem hx
   exact (okK_at h k hk).1
  ·have key:∀ d i,(hd:i+d+1<l.length)→lt (l[i]'(by omega)) (l[i+d+1]'hd)=true:=by
    intro d
    induction d with
    | zero=>intro i hd;exact (okK_at h (i+1) hd).2 i rfl
    | succ d ih=>intro i hd;exact tr _ _ _ (ih i (by omega)) ((okK_at h (i+(d+1)+1) hd).2 (i+d+1) (by omega))
   have:=key (j-i-1) i (by omega)
   simpa[show i+(j-i-1)+1=j by omega] using this
 ·rintro⟨h1,h2,h3⟩
  refine⟨List.all_eq_true.2 fun k hk=>?_,h3⟩
  have hk:k<l.length:=by simpa using hk
  unfold okK
  rw[List.getElem?_eq_getElem hk]
  simp only[Bool.and_eq_true,h1 _ (List.getElem_mem hk),true_and]
  cases k with
  | zero=>rfl
  | succ k =>
   rw[Nat.add_sub_cancel,List.getElem?_eq_getElem (show k<l.length by omega)]
   simp[List.pairwise_iff_getElem.1 h2 k (k+1) (by omega) hk (by omega)]
variable [DecidableEq α]
def allowsL (l:List α) (x:α):Bool:=l.isEmpty||l.contains x
def bothF (a b:List α):List α:=(if a.isEmpty then b else a).filter (allowsL b)
def bothOk (a b:List α):Bool:=!(bothF a b).isEmpty||(if a.isEmpty then b else a).isEmpty
def bothO (a b:List α):Option (List α):=if bothOk a b then some (bothF a b) else none
theorem bothO_nil (b:List α):bothO [] b=some b:=by
 unfold bothO bothOk bothF
 have:b.filter (allowsL b)=b:=List.filter_eq_self.2 fun x hx=>by unfold allowsL;simp[hx]
 simp[this]
theorem bothO_nil2 (a:List α):bothO a []=some a:=by
 unfold bothO bothOk bothF
 cases a with
 | nil=>rfl
 | cons x a =>
  have:(x :: a).filter (allowsL [])=x :: a:=List.filter_eq_self.2 fun y hy=>rfl
  simp[this]
theorem bothO_ne {a b:List α} (ha:a ≠ []) (hb:b ≠ []):bothO a b=if (a.filter fun x=>decide (x∈b))=[] then none else some (a.filter fun x=>decide (x∈b)):=by
 have ea:a.isEmpty=false:=by cases a;exact absurd rfl ha;rfl
 have eb:b.isEmpty=false:=by cases b;exact absurd rfl hb;rfl
 have e:a.filter (allowsL b)=a.filter fun x=>decide (x∈b):=List.filter_congr fun x _=>by unfold allowsL;rw[eb];simp
 unfold bothO bothOk bothF
 rw[ea]
 simp only[Bool.false_eq_true,if_false,e,ea,Bool.or_false]
 cases h:(a.filter fun x=>decide (x∈b)) with
 | nil=>simp
 | cons x l=>simp
theorem bothO_mem {a b s:List α} (h:bothO a b=some s):(∀ x,allowsL s x=(allowsL a x&&allowsL b x))∧(s=[]↔a=[]∧b=[])∧s.Sublist (if a.isEmpty then b else a):=by
 by_cases ha:a=[]
 ·subst ha
  rw[bothO_nil]at h
  injection h with h;subst h
  exact⟨fun x=>by simp[allowsL],by simp,by simp⟩
 ·by_cases hb:b=[]
  ·subst hb
   rw[bothO_nil2]at h
   injection h with h;subst h
   have ea:a.isEmpty=false:=by cases a;exact absurd rfl ha;rfl
   exact⟨fun x=>by simp[allowsL],by simp[ha],by rw[ea];exact List.Sublist.refl _⟩
  ·rw[bothO_ne ha hb]at h
   split at h
   ·cases h
   ·rename_i hne
    injection h with h;subst h
    have ea:a.isEmpty=false:=by cases a;exact absurd rfl ha;rfl
    have eb:b.isEmpty=false:=by cases b;exact absurd rfl hb;rfl
    have es:(a.filter fun x=>decide (x∈b)).isEmpty=false:=by
     cases h:(a.filter fun x=>decide (x∈b))
     ·exact absurd h hne
     ·rfl
    refine⟨fun x=>?_,by simp[hne,ha],by rw[ea];exact List.filter_sublist⟩
    unfold allowsL
    rw[ea,eb,es]
    simp only[Bool.false_or]
    rw[Bool.eq_iff_iff]
    simp
end
def timesB (c:CondV):Bool:=decide (0≤c.fr∧c.fr≤1099511627776∧0≤c.till∧c.till≤1099511627777∧0≤c.us∧c.us≤1073741824)
def validC (c:CondV):Bool:=timesB c&&patOk c.pat&&setB ltB isNameB 32 c.cl&&setB ltB countryB 32 c.co&&setB ltI siteB 64 c.si
theorem ltB_tr (a b c:ByteArray) (h1:ltB a b=true) (h2:ltB b c=true):ltB a c=true:=by
 unfold ltB at *
 rw[decide_eq_true_eq] at *
 exact List.lt_trans h1 h2
theorem ltI_tr (a b c:Int) (h1:ltI a b=true) (h2:ltI b c=true):ltI a c=true:=by
 unfold ltI at *
 rw[decide_eq_true_eq] at *
 omega
structure CondOk (c:CondV):Prop where
 fr0:0≤c.fr
 fr1:c.fr≤1099511627776
 to0:0≤c.till
 to1:c.till≤1099511627777
 us0:0≤c.us
 us1:c.us≤1073741824
 pat:patOk c.pat=true
 cl:∀ x∈c.cl,isNameB x=true
 clUp:c.cl.Pairwise fun a b=>ltB a b=true
 clLen:c.cl.length≤32
 co:∀ x∈c.co,countryB x=true
 coUp:c.co.Pairwise fun a b=>ltB a b=true
 coLen:c.co.length≤32
 si:∀ x∈c.si,siteB x=true
 siUp:c.si.Pairwise fun a b=>ltI a b=true
 siLen:c.si.length≤64
theorem valid_iff (c:CondV):validC c=true↔CondOk c:=by
 unfold validC timesB
 rw[Bool.and_eq_true,Bool.and_eq_true,Bool.and_eq_true,Bool.and_eq_true,decide_eq_true_eq,setB_iff ltB_tr,setB_iff ltB_tr,setB_iff ltI_tr]
 constructor
 ·rintro⟨⟨⟨⟨⟨a1,a2,a3,a4,a5,a6⟩,b⟩,c1,c2,c3⟩,d1,d2,d3⟩,e1,e2,e3⟩
  exact⟨a1,a2,a3,a4,a5,a6,b,c1,c2,c3,d1,d2,d3,e1,e2,e3⟩
 ·rintro⟨a1,a2,a3,a4,a5,a6,b,c1,c2,c3,d1,d2,d3,e1,e2,e3⟩
  exact⟨⟨⟨⟨⟨a1,a2,a3,a4,a5,a6⟩,b⟩,c1,c2,c3⟩,d1,d2,d3⟩,e1,e2,e3⟩
def usesM (a b:Int):Int:=if 0<a∧0<b then min a b else max a b
def meetO (a b:CondV):Option CondV:=(pmeet a.pat b.pat).bind fun p=>(bothO a.cl b.cl).bind fun cl=>(bothO a.co b.co).bind fun co=>(bothO a.si b.si).bind fun si =>
 if max a.fr b.fr<min a.till b.till then some ⟨max a.fr b.fr,min a.till b.till,p,cl,co,si,usesM a.us b.us⟩ else none
def meetC (a b:CondV):CondV:=(meetO a b).getD zeroC
theorem meetO_some {a b s:CondV}:meetO a b=some s↔pmeet a.pat b.pat=some s.pat∧bothO a.cl b.cl=some s.cl∧bothO a.co b.co=some s.co∧bothO a.si b.si=some s.si∧max a.fr b.fr<min a.till b.till∧s.fr=max a.fr b.fr∧s.till=min a.till b.till∧s.us=usesM a.us b.us:=by
 unfold meetO
 constructor
 ·intro h
  obtain⟨p,h1,h⟩:=Option.bind_eq_some_iff.1 h
  obtain⟨cl,h2,h⟩:=Option.bind_eq_some_iff.1 h
  obtain⟨co,h3,h⟩:=Option.bind_eq_some_iff.1 h
  obtain⟨si,h4,h⟩:=Option.bind_eq_some_iff.1 h
  split at h
  ·rename_i hlt
   injection h with h
   subst h
   exact⟨h1,h2,h3,h4,hlt,rfl,rfl,rfl⟩
  ·cases h
 ·rintro⟨h1,h2,h3,h4,h5,h6,h7,h8⟩
  rw[h1,Option.bind_some,h2,Option.bind_some,h3,Option.bind_some,h4,Option.bind_some,if_pos h5,←h6,←h7,←h8]
theorem meetO_ok {a b s:CondV} (ha:CondOk a) (hb:CondOk b) (h:meetO a b=some s):CondOk s∧s.fr<s.till:=by
 obtain⟨h1,h2,h3,h4,h5,h6,h7,h8⟩:=meetO_some.1 h
 have m1:=(bothO_mem h2).2.2
 have m2:=(bothO_mem h3).2.2
 have m3:=(bothO_mem h4).2.2
 refine⟨?_,by omega⟩
 have a0:=ha.fr0;have a1:=ha.fr1;have a2:=ha.to0;have a3:=ha.to1;have a4:=ha.us0;have a5:=ha.us1
 have b0:=hb.fr0;have b1:=hb.fr1;have b2:=hb.to0;have b3:=hb.to1;have b4:=hb.us0;have b5:=hb.us1
 have hu:0≤usesM a.us b.us∧usesM a.us b.us≤1073741824:=by unfold usesM;split <;> omega
 refine⟨by omega,by omega,by omega,by omega,by omega,by omega,pmeet_ok ha.pat hb.pat h1,?_,?_,?_,?_,?_,?_,?_,?_,?_⟩
 ·split at m1
  ·exact fun x hx=>hb.cl x (m1.subset hx)
  ·exact fun x hx=>ha.cl x (m1.subset hx)
 ·split at m1
  ·exact hb.clUp.sublist m1
  ·exact ha.clUp.sublist m1
 ·split at m1
  ·exact Nat.le_trans m1.length_le hb.clLen
  ·exact Nat.le_trans m1.length_le ha.clLen
 ·split at m2
  ·exact fun x hx=>hb.co x (m2.subset hx)
  ·exact fun x hx=>ha.co x (m2.subset hx)
 ·split at m2
  ·exact hb.coUp.sublist m2
  ·exact ha.coUp.sublist m2
 ·split at m2
  ·exact Nat.le_trans m2.length_le hb.coLen
  ·exact Nat.le_trans m2.length_le ha.coLen
 ·split at m3
  ·exact fun x hx=>hb.si x (m3.subset hx)
  ·exact fun x hx=>ha.si x (m3.subset hx)
 ·split at m3
  ·exact hb.siUp.sublist m3
  ·exact ha.siUp.sublist m3
 ·split at m3
  ·exact Nat.le_trans m3.length_le hb.siLen
  ·exact Nat.le_trans m3.length_le ha.siLen
theorem zero_ok:CondOk zeroC:=by
 refine⟨by decide,by decide,by decide,by decide,by decide,by decide,rfl,?_,?_,?_,?_,?_,?_,?_,?_,?_⟩ <;> simp[zeroC]
theorem meetC_ok {a b:CondV} (ha:CondOk a) (hb:CondOk b):CondOk (meetC a b):=by
 unfold meetC
 cases h:meetO a b with
 | none=>exact zero_ok
 | some s=>exact (meetO_ok ha hb h).1
def patT (p:ByteArray):ByteArray:=if p.size=0 then ⟨#[42,47,42,42]⟩ else p
theorem key_less (a b:ByteArray):(!(Op.bytesLess a.toList b.toList||a.toList==b.toList))=decide (b.data.toList<a.data.toList):=by
 rw[bytesLess_eq,Lib.toList_data,Lib.toList_data,Bool.eq_iff_iff]
 simp only[Bool.not_eq_true',Bool.or_eq_false_iff,decide_eq_false_iff_not,beq_eq_false_iff_ne,decide_eq_true_eq]
 constructor
 ·rintro⟨h1,h2⟩;exact lt_tri _ _ h2 h1
 ·intro h
  exact⟨fun h1=>List.lt_irrefl _ (List.lt_trans h h1),fun e=>List.lt_irrefl _ (by rw[e]at h;exact h)⟩
theorem pairK_at (qs:List (ByteArray × ByteArray)) (k:Nat) (hk:k<qs.length):pairK qs k=true↔isNameB qs[k].1=true∧isWordB qs[k].2=true∧(k=0∨∃ h:k-1<qs.length,qs[k-1].1.data.toList<qs[k].1.data.toList):=by
 unfold pairK
 rw[List.getElem?_eq_getElem hk]
 simp only[Bool.and_eq_true,Bool.or_eq_true,beq_iff_eq]
 have hk1:k-1<qs.length:=by omega
 rw[List.getElem?_eq_getElem hk1]
 simp only[Option.getD_some]
 rw[key_less,decide_eq_true_eq]
 constructor
 ·rintro⟨⟨h1,h2⟩,h3⟩
  exact⟨h1,h2,h3.imp id fun h=>⟨hk1,h⟩⟩
 ·rintro⟨h1,h2,h3⟩
  exact⟨⟨h1,h2⟩,h3.imp id fun ⟨_,h⟩=>h⟩
theorem formed_iff (c:ByteArray) (xs:List ByteArray) (qs:List (ByteArray × ByteArray)):formedB c xs qs=true↔AdrGood ⟨c,xs,qs⟩∧(W06 c xs qs).length≤4096:=by
 unfold formedB headOk
 simp only[Bool.and_eq_true,decide_eq_true_eq,List.all_eq_true,List.mem_range]
 constructor
 ·rintro⟨⟨⟨⟨⟨h1,h2⟩,h3⟩,h4⟩,h5⟩,h6⟩
  have hat:=fun k hk=>(pairK_at qs k hk).1 (h5 k hk)
  refine⟨⟨h1,h4,h2,h3,?_,?_⟩,h6⟩
  ·intro q hq
   obtain⟨k,hk,rfl⟩:=List.getElem_of_mem hq
   exact⟨(hat k hk).1,(hat k hk).2.1⟩
  ·unfold KeysUp
   rw[List.pairwise_iff_getElem]
   intro i j
   induction j with
   | zero=>intro _ _ h;omega
   | succ j ih =>
    intro hi hj hij
    rcases (hat (j+1) hj).2.2 with h | ⟨h,h7⟩
    ·omega
    ·have e:j+1-1=j:=rfl
     simp only[e]at h7
     by_cases hij2:i=j
     ·subst hij2;exact h7
     ·exact List.lt_trans (ih hi (by omega) (by omega)) h7
 ·rintro⟨⟨h1,h4,h2,h3,h5,h7⟩,h6⟩
  refine⟨⟨⟨⟨⟨h1,h2⟩,h3⟩,h4⟩,fun k hk=>?_⟩,h6⟩
  rw[pairK_at qs k hk]
  have hq:=h5 qs[k] (List.getElem_mem hk)
  refine⟨hq.1,hq.2,?_⟩
  by_cases h0:k=0
  ·exact .inl h0
  ·have hk1:k-1<qs.length:=by omega
   exact .inr ⟨hk1,List.pairwise_iff_getElem.1 h7 (k-1) k hk1 hk (by omega)⟩
section
variable {c:ByteArray} {ws:List ByteArray} (hc:isNameB c=true) (hw:∀ w∈ws,isWordB w=true) (hn:ws.length≤32)
include hc hw hn
end
end Go.Proofs.YtlkbkclnbppigaaGreatDoor
