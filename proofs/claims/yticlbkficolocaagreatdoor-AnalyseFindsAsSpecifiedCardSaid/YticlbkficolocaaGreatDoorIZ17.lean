/- Plain: the texts of patterns and of the addresses that they match. -/
import Derived.Test.YticlbkficolocaaGreatDoorIZ16
set_option maxHeartbeats 2000000
namespace Go.Proofs.YticlbkficolocaaGreatDoor
open Go.RowKit Go.Sort
set_option linter.unusedVariables false
set_option linter.unusedSimpArgs false
set_option maxRecDepth 100000
theorem tail_path (l:List (List UInt8)):Lib.joinTail [47] l=Zv l:=by
 induction l with
 | nil=>rfl
 | cons x l ih =>
  simp only[Lib.joinTail,Zv,List.map_cons,List.flatten_cons,List.flatMap_cons]at ih ⊢
  rw[ih];rfl
theorem J3 (c:ByteArray) (ws:List ByteArray):(Xt (c :: ws)).data.toList=c.data.toList++Zv (lists ws):=by
 unfold Xt lists
 rw[List.map_cons,Lib.join_cons,tail_path]
 rfl
theorem joinS_write (c:ByteArray) (ws:List ByteArray):Xt (c :: ws)=Zd (Us c ws []):=by
 refine Qm ?_
 rw[J3]
 show _=Us c ws []
 unfold Us JV
 simp[Zh,Zu]
theorem split_join (c:ByteArray) (ws:List ByteArray) (hc:47 ∉ c.data.toList) (hw:∀ w∈ws,47 ∉ w.data.toList):splitB 47 (Xt (c :: ws))=c :: ws:=by
 unfold splitB
 rw[J3,split_path _ _ hc (by
  intro y hy
  obtain⟨z,hz,rfl⟩:=List.mem_map.1 hy
  exact hw z hz)]
 have:∀ z:ByteArray,(⟨z.data.toList.toArray⟩:ByteArray)=z:=fun z=>Qm rfl
 simp[lists,Function.comp_def]
theorem split_back:∀ l:List UInt8,∃ x r,Zz 47 l=x :: r∧l=x++Zv r
 | []=>⟨[],[],rfl,rfl⟩
 | b :: l=>by
  obtain⟨x,r,h1,h2⟩:=split_back l
  unfold Zz
  split
  ·rename_i e
   exact⟨[],x :: r,by rw[h1],by rw[e,h2];simp[Zv]⟩
  ·rw[h1]
   exact⟨b :: x,r,rfl,by rw[h2];rfl⟩
theorem join_split (s:ByteArray):Xt (splitB 47 s)=s:=by
 obtain⟨x,r,h1,h2⟩:=split_back s.data.toList
 unfold splitB
 rw[h1,List.map_cons]
 refine Qm ?_
 rw[J3]
 have:lists (r.map fun l=>(⟨l.toArray⟩:ByteArray))=r:=by simp[lists,Function.comp_def]
 rw[this,h2]
theorem Jl (k:Nat) (t:ByteArray):(Qp k t).data.toList=if k=0 then t.data.toList else 42 :: t.data.toList:=by
 unfold Qp
 split
 ·rfl
 ·simp
theorem Wp {p:Part} (hp:Qa p):Kv (Qp p.kind p.text)=true∧Q7 (Qp p.kind p.text)=p∧47 ∉ (Qp p.kind p.text).data.toList∧(Qp p.kind p.text).data.toList ≠ [42,42]:=by
 obtain⟨k,t⟩:=p
 have e:=Jl k t
 rcases hp with ⟨hk,hw⟩ | ⟨hk,s,hs,hs2,ht⟩ | ⟨hk,ht⟩ <;> dsimp only at * <;> subst hk
 ·have e0:Qp 0 t=t:=rfl
  rw[e0]
  refine⟨?_,UJ hw,(X5 hw).1,fun h=>?_⟩
  ·unfold Kv;rw[hw];simp
  ·exact (X5 hw).2.2.2.2.1 (by rw[h];simp)
 ·rw[if_neg (by decide),ht]at e
  refine⟨?_,?_,?_,?_⟩
  ·have h2:(Qp 1 t).extract 2 (Qp 1 t).size=s:=Qm (by rw[extract_data,e];rfl)
   have hz:(Qp 1 t).size=s.size+2:=by rw[Qn,Qn,e];rfl
   unfold Kv
   rw[h2,hs,e,hz]
   have h34:decide (s.size+2≤34)=true:=by simp;omega
   rw[h34]
   simp[Lib.hasPrefix]
  ·rw[KZ _ e]
   simp only[List.isEmpty_cons,Bool.false_eq_true,if_false]
   exact congrArg (Part.mk 1) (Qm ht.symm)
  ·rw[e]
   have:=(X5 hs).1
   simp[this]
  ·rw[e];intro h;injection h with _ h;injection h with h _;exact absurd h (by decide)
 ·subst ht
  rw[if_neg (by decide)]at e
  refine⟨?_,?_,?_,?_⟩
  ·unfold Kv;rw[Lib.toList_data,e];rfl
  ·rw[KZ _ e];rfl
  ·rw[e];simp
  ·rw[e];simp
theorem str_cust {p:Part} (hp:Jj p):Xq (Qp p.kind p.text)=true:=by
 have e:=Jl p.kind p.text
 obtain⟨k,t⟩:=p
 rcases hp with ⟨hk,hw⟩ | ⟨hk,ht⟩ <;> dsimp only at * <;> subst hk
 ·have e0:Qp 0 t=t:=rfl
  rw[e0];unfold Xq;rw[hw,Bool.or_true]
 ·unfold Xq
  rw[Lib.toList_data,e,ht];rfl
def Jh (b:Bool):List ByteArray:=if b then [⟨#[42,42]⟩] else []
theorem cmpL_str:∀ (ps acc:List Part) (b:Bool),(∀ p∈ps,Qa p)→cmpL (Zg ps++Jh b) acc=some (acc++ps,b)
 | [],acc,b,_=>by
  cases b
  ·simp[Zg,Jh,cmpL]
  ·simp only[Zg,Jh,List.map_nil,List.nil_append,if_true,cmpL]
   rw[if_pos (by rw[Lib.toList_data];rfl)]
   simp
 | p :: ps,acc,b,h=>by
  obtain⟨h1,h2,h3,h4⟩:=Wp (h p (by simp))
  have e:Zg (p :: ps)++Jh b=Qp p.kind p.text :: (Zg ps++Jh b):=rfl
  rw[e,cmpL,if_neg (by rw[Lib.toList_data];simp[h4]),if_pos h1,h2,cmpL_str ps _ b fun q hq=>h q (by simp[hq])]
  simp
theorem Y6 (z:Z7):VW z=Xt (Qp z.cust.kind z.cust.text :: (Zg z.parts++Jh z.tail)):=rfl
theorem U5 (l0:ByteArray) (r:List ByteArray):Vq (l0 :: r)=if (decide (r.length≤32)&&Xq l0)=true then (cmpL r []).map fun x=>⟨Q7 l0,x.1,x.2⟩ else none:=rfl
theorem UY {z:Z7} (hz:Zt z):Qx (VW z)=some z:=by
 unfold Qx
 rw[Y6,split_join _ _ (Wp hz.cust.part).2.2.1 (by
  intro w hw
  rcases List.mem_append.1 hw with hw | hw
  ·obtain⟨p,hp,rfl⟩:=List.mem_map.1 hw
   exact (Wp (hz.parts p hp)).2.2.1
  ·unfold Jh at hw
   split at hw
   ·rw[List.mem_singleton.1 hw];decide
   ·cases hw)]
 rw[U5]
 have hn:=hz.num
 have hl:(Zg z.parts++Jh z.tail).length≤32:=by
  unfold Zg Jh
  rw[List.length_append,List.length_map]
  cases ht:z.tail <;> simp[ht]at hn ⊢ <;> omega
 rw[if_pos (by rw[Bool.and_eq_true,decide_eq_true_eq];exact⟨hl,str_cust hz.cust⟩),cmpL_str _ _ _ hz.parts,(Wp hz.cust.part).2.1]
 rfl
theorem str_head {w:ByteArray} (h:Xq w=true):Qp (Q7 w).kind (Q7 w).text=w:=by
 unfold Xq at h
 rw[Bool.or_eq_true,Lib.toList_data,beq_iff_eq]at h
 rcases h with h | h
 ·rw[KZ [] h]
  exact Qm (by rw[Jl,if_neg (by decide),h];rfl)
 ·rw[UJ (Xz h)];rfl
theorem str_part {w:ByteArray} (h:Kv w=true):Qp (Q7 w).kind (Q7 w).text=w:=by
 have hf:=partOk_fit h
 unfold Kv at h
 rw[Bool.or_eq_true,Bool.or_eq_true,Lib.toList_data,beq_iff_eq]at h
 rcases h with (h | h) | h
 ·rw[KZ [] h]
  exact Qm (by rw[Jl,if_neg (by decide),h];rfl)
 ·rw[UJ h];rfl
 ·simp only[Bool.and_eq_true,decide_eq_true_eq]at h
  obtain⟨⟨h1,h2⟩,h3⟩:=h
  obtain⟨r,hr⟩:=prefix_two h2
  rw[KZ (46 :: r) hr]
  exact Qm (by simp[Jl,hr])
theorem strL_back:∀ (l:List ByteArray) (acc:List Part) (r:List Part × Bool),cmpL l acc=some r→Zg r.1++Jh r.2=Zg acc++l
 | [],acc,r,e=>by simp[cmpL]at e;subst e;simp[Jh]
 | w :: l,acc,r,e=>by
  rw[cmpL]at e
  split at e
  ·rename_i hc
   injection e with e;subst e
   simp only[Bool.and_eq_true,List.isEmpty_iff,Lib.toList_data,beq_iff_eq]at hc
   rw[hc.2]
   have:w=⟨#[42,42]⟩:=Qm hc.1
   rw[this];rfl
  ·split at e
   ·rename_i hk
    rw[strL_back l _ r e]
    unfold Zg
    rw[List.map_append,List.map_cons,str_part hk]
    simp
   ·cases e
theorem str_compile {q:ByteArray} {y:Z7} (h:Qx q=some y):VW y=q:=by
 unfold Qx at h
 have hj:=join_split q
 generalize splitB 47 q=l at h hj
 cases l with
 | nil=>cases h
 | cons l0 r =>
  rw[U5]at h
  split at h
  ·rename_i hc
   rw[Bool.and_eq_true]at hc
   obtain⟨x,hx,rfl⟩:=Option.map_eq_some_iff.1 h
   have hb:=strL_back r [] x hx
   rw[Y6]
   show Xt (Qp (Q7 l0).kind (Q7 l0).text :: (Zg x.1++Jh x.2))=q
   rw[str_head hc.2,hb,←hj]
   rfl
  ·cases h
theorem adr_words {c:ByteArray} {ws:List ByteArray} (hc:Qy c=true) (hw:∀ w∈ws,Qg w=true) (hn:ws.length≤32):Un ⟨c,ws,[]⟩ :=
 ⟨hc,hw,hn,by simp,by simp,List.Pairwise.nil⟩
theorem adr_short {c:ByteArray} {ws:List ByteArray} (hc:Qy c=true) (hw:∀ w∈ws,Qg w=true) (hn:ws.length≤32):(Us c ws []).length≤4096:=by
 have h1:=pathL_bound (lists ws) (by
  intro p hp
  obtain⟨x,hx,rfl⟩:=List.mem_map.1 hp
  have:=Ub (hw x hx)
  rw[Lib.size_eq]at this;exact this)
 have h2:=KJ hc
 rw[Lib.size_eq]at h2
 simp only[lists,List.length_map]at h1
 simp only[Us,JV,List.length_append,lists,Zh,List.map_nil,Zu,List.length_nil]
 omega
theorem parse_join {c:ByteArray} {ws:List ByteArray} (hc:Qy c=true) (hw:∀ w∈ws,Qg w=true) (hn:ws.length≤32):QW (Xt (c :: ws))=(⟨c,ws,[]⟩,0)∧readB (Xt (c :: ws))=true:=by
 rw[joinS_write]
 exact⟨parse_write (adr_words hc hw hn) (adr_short hc hw hn),read_write (adr_words hc hw hn) (adr_short hc hw hn)⟩
theorem Wx {p:ByteArray} {x:Z7} (hx:Qx p=some x) {c:ByteArray} {ws:List ByteArray} (hc:Qy c=true) (hw:∀ w∈ws,Qg w=true) (hn:ws.length≤32):Zk p (Xt (c :: ws))=Xu x ⟨c,ws,[]⟩:=by
 obtain⟨h1,h2⟩:=parse_join hc hw hn
 unfold Zk
 rw[hx,h1,h2]
 simp
theorem words_ok {ps:List Part} (h:∀ p∈ps,Qa p):∀ w∈Xl ps,Qg w=true:=by
 intro w hw
 obtain⟨p,hp,rfl⟩:=List.mem_map.1 hw
 exact (with_fit (h p hp) (.inl rfl)).1
def Vy (z:Z7):ByteArray:=Xt (XV z.cust.kind z.cust.text ⟨#[97]⟩ :: Xl z.parts)
theorem match_exText {p:ByteArray} {x z:Z7} (hx:Qx p=some x) (hz:Zt z):Zk p (Vy z)=Xu x (exA z) :=
 Wx hx (with_cust hz.cust (.inl rfl)) (words_ok hz.parts) (by rw[Yy];have:=hz.num;omega)
def badL:List Part→List Part→Option (List ByteArray)
 | [],_=>none
 | _ :: _,[]=>none
 | a :: xs,b :: ys=>if Zb a.kind a.text b.kind b.text then (badL xs ys).map (XV b.kind b.text ⟨#[97]⟩ :: ·) else some (withoutP b.kind b.text a.kind a.text :: Xl ys)
def coverW (x y:Z7):ByteArray :=
 if !Zb x.cust.kind x.cust.text y.cust.kind y.cust.text then Xt (withoutP y.cust.kind y.cust.text x.cust.kind x.cust.text :: Xl y.parts)
 else if decide (y.parts.length<x.parts.length)||(decide (x.parts.length<y.parts.length)&&!x.tail) then Vy y
 else if y.tail&&!x.tail then Xt (XV y.cust.kind y.cust.text ⟨#[97]⟩ :: (Xl y.parts++[⟨#[97]⟩]))
 else match badL x.parts y.parts with
  | some ws=>Xt (XV y.cust.kind y.cust.text ⟨#[97]⟩ :: ws)
  | none=>⟨#[]⟩
theorem key_less (a b:ByteArray):(!(Op.bytesLess a.toList b.toList||a.toList==b.toList))=decide (b.data.toList<a.data.toList):=by
 rw[bytesLess_eq,Lib.toList_data,Lib.toList_data,Bool.eq_iff_iff]
 simp only[Bool.not_eq_true',Bool.or_eq_false_iff,decide_eq_false_iff_not,beq_eq_false_iff_ne,decide_eq_true_eq]
 constructor
 ·rintro⟨h1,h2⟩;exact lt_tri _ _ h2 h1
 ·intro h
  exact⟨fun h1=>List.lt_irrefl _ (List.lt_trans h h1),fun e=>List.lt_irrefl _ (by rw[e]at h;exact h)⟩
theorem pairK_at (qs:List (ByteArray × ByteArray)) (k:Nat) (hk:k<qs.length):pairK qs k=true↔Qy qs[k].1=true∧Qg qs[k].2=true∧(k=0∨∃ h:k-1<qs.length,qs[k-1].1.data.toList<qs[k].1.data.toList):=by
 unfold pairK
 rw[List.getElem?_eq_getElem hk]
 simp only[Bool.and_eq_true,Bool.or_eq_true,beq_iff_eq]
 have hk1:k-1<qs.length:=by omega
 rw[List.getElem?_eq_getElem hk1]
 simp only[Option.getD_some]
 rw[key_less,decide_eq_true_eq]
 constructor
 ·rintro⟨⟨h1,h2⟩,h3⟩
  exact⟨h1,h2,h3.imp id fun h=>⟨hk1,h⟩⟩
 ·rintro⟨h1,h2,h3⟩
  exact⟨⟨h1,h2⟩,h3.imp id fun ⟨_,h⟩=>h⟩
theorem formed_iff (c:ByteArray) (xs:List ByteArray) (qs:List (ByteArray × ByteArray)):V5 c xs qs=true↔Un ⟨c,xs,qs⟩∧(Us c xs qs).length≤4096:=by
 unfold V5 headOk
 simp only[Bool.and_eq_true,decide_eq_true_eq,List.all_eq_true,List.mem_range]
 constructor
 ·rintro⟨⟨⟨⟨⟨h1,h2⟩,h3⟩,h4⟩,h5⟩,h6⟩
  have hat:=fun k hk=>(pairK_at qs k hk).1 (h5 k hk)
  refine⟨⟨h1,h4,h2,h3,?_,?_⟩,h6⟩
  ·intro q hq
   obtain⟨k,hk,rfl⟩:=List.getElem_of_mem hq
   exact⟨(hat k hk).1,(hat k hk).2.1⟩
  ·unfold KeysUp
   rw[List.pairwise_iff_getElem]
   intro i j
   induction j with
   | zero=>intro _ _ h;omega
   | succ j ih =>
    intro hi hj hij
    rcases (hat (j+1) hj).2.2 with h | ⟨h,h7⟩
    ·omega
    ·have e:j+1-1=j:=rfl
     simp only[e]at h7
     by_cases hij2:i=j
     ·subst hij2;exact h7
     ·exact List.lt_trans (ih hi (by omega) (by omega)) h7
 ·rintro⟨⟨h1,h4,h2,h3,h5,h7⟩,h6⟩
  refine⟨⟨⟨⟨⟨h1,h2⟩,h3⟩,h4⟩,fun k hk=>?_⟩,h6⟩
  rw[pairK_at qs k hk]
  have hq:=h5 qs[k] (List.getElem_mem hk)
  refine⟨hq.1,hq.2,?_⟩
  by_cases h0:k=0
  ·exact .inl h0
  ·have hk1:k-1<qs.length:=by omega
   exact .inr ⟨hk1,List.pairwise_iff_getElem.1 h7 (k-1) k hk1 hk (by omega)⟩
section
variable {c:ByteArray} {ws:List ByteArray} (hc:Qy c=true) (hw:∀ w∈ws,Qg w=true) (hn:ws.length≤32)
include hc hw hn
end
def matchO (z:Option Z7) (a:Adr):Bool:=match z with
 | some z=>Xu z a
 | none=>false
theorem common_match {x y:Z7} (hx:Zt x) (hy:Zt y) (a:Adr):matchO (QK x y) a=(Xu x a&&Xu y a):=by
 cases h:QK x y with
 | none=>exact (commonP_none hx hy h a).symm
 | some z=>exact (J4 hx hy h).2 a
def Uc (p:ByteArray):Bool:=decide (p.size=0)||(Qx p).isSome
def X3 (p q:ByteArray):Option ByteArray:=if p.size=0 then some q else if q.size=0 then some p else match Qx p,Qx q with
 | some x,some y=>(QK x y).map VW
 | _,_=>none
theorem patS_ne {z:Z7} (hz:Zt z):(VW z).size≠0:=by
 intro h
 have hc:=UY hz
 have hd:VW z=⟨#[]⟩:=Qm (List.eq_nil_of_length_eq_zero (by rw[←Lib.size_eq];exact h))
 rw[hd]at hc
 have:Qx ⟨#[]⟩=none:=by
  unfold Qx
  rw[show splitB 47 ⟨#[]⟩=[⟨#[]⟩] from rfl,U5]
  have:Xq ⟨#[]⟩=false:=by
   unfold Xq Qy Qg
   rw[Lib.toList_data];rfl
  rw[this];simp
 rw[this]at hc
 cases hc
theorem patOk_some {p:ByteArray} (h:Uc p=true) (h0:p.size≠0):∃ x,Qx p=some x:=by
 unfold Uc at h
 rw[Bool.or_eq_true,decide_eq_true_eq]at h
 rcases h with h | h
 ·exact absurd h h0
 ·exact Option.isSome_iff_exists.1 h
theorem pmeet_two {p q:ByteArray} {x y:Z7} (h1:p.size≠0) (h2:q.size≠0) (hx:Qx p=some x) (hy:Qx q=some y):X3 p q=(QK x y).map VW:=by
 unfold X3
 rw[if_neg h1,if_neg h2,hx,hy]
section
variable {α:Type}
theorem okK_at {lt:α→α→Bool} {right:α→Bool} {l:List α} (h:(List.range l.length).all (Jt lt right l)=true) (k:Nat) (hk:k<l.length):right l[k]=true∧∀ j,(hj:j+1=k)→lt (l[j]'(by omega)) l[k]=true:=by
 have:=(List.all_eq_true.1 h) k (by simpa using hk)
 unfold Jt at this
 rw[List.getElem?_eq_getElem hk]at this
 simp only[Bool.and_eq_true]at this
 refine⟨this.1,fun j hj=>?_⟩
 subst hj
 have h2:=this.2
 rw[Nat.add_sub_cancel,List.getElem?_eq_getElem (show j<l.length by omega)]at h2
 simpa using h2
theorem setB_iff {lt:α→α→Bool} (tr:∀ a b c,lt a b=true→lt b c=true→lt a c=true) (right:α→Bool) (most:Nat) (l:List α):setB lt right most l=true↔(∀ x∈l,right x=true)∧l.Pairwise (fun a b=>lt a b=true)∧l.length≤most:=by
 unfold setB
 rw[Bool.and_eq_true,decide_eq_true_eq]
 constructor
 ·rintro⟨h,hm⟩
  refine⟨fun x hx=>?_,List.pairwise_iff_getElem.2 fun i j hi hj hij=>?_,hm⟩
  ·obtain⟨k,hk,rfl⟩:=List.getElem_of_mem hx
   exact (okK_at h k hk).1
  ·have key:∀ d i,(hd:i+d+1<l.length)→lt (l[i]'(by omega)) (l[i+d+1]'hd)=true:=by
    intro d
    induction d with
    | zero=>intro i hd;exact (okK_at h (i+1) hd).2 i rfl
    | succ d ih=>intro i hd;exact tr _ _ _ (ih i (by omega)) ((okK_at h (i+(d+1)+1) hd).2 (i+d+1) (by omega))
   have:=key (j-i-1) i (by omega)
   simpa[show i+(j-i-1)+1=j by omega] using this
 ·rintro⟨h1,h2,h3⟩
  refine⟨List.all_eq_true.2 fun k hk=>?_,h3⟩
  have hk:k<l.length:=by simpa using hk
  unfold Jt
  rw[List.getElem?_eq_getElem hk]
  simp only[Bool.and_eq_true,h1 _ (List.getElem_mem hk),true_and]
  cases k with
  | zero=>rfl
  | succ k =>
   rw[Nat.add_sub_cancel,List.getElem?_eq_getElem (show k<l.length by omega)]
   simp[List.pairwise_iff_getElem.1 h2 k (k+1) (by omega) hk (by omega)]
variable [DecidableEq α]
def Xg (l:List α) (x:α):Bool:=l.isEmpty||l.contains x
def bothF (a b:List α):List α:=(if a.isEmpty then b else a).filter (Xg b)
def bothOk (a b:List α):Bool:=!(bothF a b).isEmpty||(if a.isEmpty then b else a).isEmpty
def bothO (a b:List α):Option (List α):=if bothOk a b then some (bothF a b) else none
end
def timesB (c:ZV):Bool:=decide (0≤c.fr∧c.fr≤1099511627776∧0≤c.till∧c.till≤1099511627777∧0≤c.us∧c.us≤1073741824)
def Xj (c:ZV):Bool:=timesB c&&Uc c.pat&&setB KQ Qy 32 c.cl&&setB KQ Zn 32 c.co&&setB ltI Jb 64 c.si
theorem ltB_tr (a b c:ByteArray) (h1:KQ a b=true) (h2:KQ b c=true):KQ a c=true:=by
 unfold KQ at *
 rw[decide_eq_true_eq] at *
 exact List.lt_trans h1 h2
theorem ltI_tr (a b c:Int) (h1:ltI a b=true) (h2:ltI b c=true):ltI a c=true:=by
 unfold ltI at *
 rw[decide_eq_true_eq] at *
 omega
structure CondOk (c:ZV):Prop where
 fr0:0≤c.fr
 fr1:c.fr≤1099511627776
 to0:0≤c.till
 to1:c.till≤1099511627777
 us0:0≤c.us
 us1:c.us≤1073741824
 pat:Uc c.pat=true
 cl:∀ x∈c.cl,Qy x=true
 clUp:c.cl.Pairwise fun a b=>KQ a b=true
 clLen:c.cl.length≤32
 co:∀ x∈c.co,Zn x=true
 coUp:c.co.Pairwise fun a b=>KQ a b=true
 coLen:c.co.length≤32
 si:∀ x∈c.si,Jb x=true
 siUp:c.si.Pairwise fun a b=>ltI a b=true
 siLen:c.si.length≤64
theorem valid_iff (c:ZV):Xj c=true↔CondOk c:=by
 unfold Xj timesB
 rw[Bool.and_eq_true,Bool.and_eq_true,Bool.and_eq_true,Bool.and_eq_true,decide_eq_true_eq,setB_iff ltB_tr,setB_iff ltB_tr,setB_iff ltI_tr]
 constructor
 ·rintro⟨⟨⟨⟨⟨a1,a2,a3,a4,a5,a6⟩,b⟩,c1,c2,c3⟩,d1,d2,d3⟩,e1,e2,e3⟩
  exact⟨a1,a2,a3,a4,a5,a6,b,c1,c2,c3,d1,d2,d3,e1,e2,e3⟩
 ·rintro⟨a1,a2,a3,a4,a5,a6,b,c1,c2,c3,d1,d2,d3,e1,e2,e3⟩
  exact⟨⟨⟨⟨⟨a1,a2,a3,a4,a5,a6⟩,b⟩,c1,c2,c3⟩,d1,d2,d3⟩,e1,e2,e3⟩
def usesM (a b:Int):Int:=if 0<a∧0<b then min a b else max a b
def meetO (a b:ZV):Option ZV:=(X3 a.pat b.pat).bind fun p=>(bothO a.cl b.cl).bind fun cl=>(bothO a.co b.co).bind fun co=>(bothO a.si b.si).bind fun si =>
 if max a.fr b.fr<min a.till b.till then some ⟨max a.fr b.fr,min a.till b.till,p,cl,co,si,usesM a.us b.us⟩ else none
def meetC (a b:ZV):ZV:=(meetO a b).getD zeroC
theorem single_comp (s:ByteArray) (h:47 ∉ s.data.toList):(Qx s).isSome=Xq s:=by
 unfold Qx
 have e:splitB 47 s=[s]:=splitB_miss 47 s (by rw[Jo _ _ h];omega)
 rw[e,U5]
 cases Xq s
 ·rfl
 ·rfl
theorem name_eq (s:ByteArray):Qy s=(!(s.toList == [42])&&!decide (0≤Lib.indexByte s.data.toList 47)&&(Qx s).isSome):=by
 by_cases h:47∈s.data.toList
 ·have h1:Qy s=false:=by
   cases hn:Qy s
   ·rfl
   ·exact absurd h (X5 (Xz hn)).1
  have h2:decide (0≤Lib.indexByte s.data.toList 47)=true:=by
   rw[decide_eq_true_eq]
   rcases Int.lt_or_le (Lib.indexByte s.data.toList 47) 0 with hlt | hle
   ·exact absurd h (indexByte_mem _ _ hlt)
   ·exact hle
  rw[h1,h2];simp
 ·rw[Jo _ _ h,single_comp s h]
  unfold Xq
  cases hs:(s.toList == [42])
  ·simp
  ·have:Qy s=false:=by
    cases hn:Qy s
    ·rfl
    ·have:=(X5 (Xz hn)).2.2.2.2.1
     rw[beq_iff_eq,Lib.toList_data]at hs
     rw[hs]at this
     exact absurd (by simp) this
   rw[this];rfl
theorem condName_any (s:ByteArray) (w:World) (hs:s.size≤100000) (hE:Env w):Calls Tryz.prog 121 #[.string s] w (Zx w (.bool (Qy s))):=by
 have HVA:=Lib.hid (fun W h=>Yu s W hs h)
 have HE:=Lib.hid hE
 rw[name_eq]
 clear hE
 generalize (Qx s).isSome=b at *
 generalize hc:decide (0≤Lib.indexByte s.data.toList 47)=cc
 have cC:=fun W=>Tryz.strings_Contains_one s 47 W
 rw[hc]at cC
 have HC:=Lib.hid cC
 clear cC hc
 cases h1:(s.toList == [42])
 ·have h1':¬ s.toList=[42]:=by simpa using h1
  cases cc
  ·go_enter Tryz.func121,Tryz.ntmps121
   go_wp2_with (first | (go_at_call 146;refine (HC.out _).mono ?_;rintro e w1 ⟨rfl,rfl⟩) | (go_at_call 23;refine (HVA.out _ (Env.keep HE.out Qz)).mono ?_;rintro e w2 ⟨rfl,hb2⟩))
   go_ret
   exact⟨QY (by simp),Qz⟩
  ·go_enter Tryz.func121,Tryz.ntmps121
   go_wp2_with (first | (go_at_call 146;refine (HC.out _).mono ?_;rintro e w1 ⟨rfl,rfl⟩) | (go_at_call 23;refine (HVA.out _ (Env.keep HE.out Qz)).mono ?_;rintro e w2 ⟨rfl,hb2⟩))
   go_ret
   exact⟨rfl,Qz⟩
 ·have h1':s.toList=[42]:=by simpa using h1
  go_enter Tryz.func121,Tryz.ntmps121
  go_wp2
  all_goals (go_ret;exact⟨rfl,Qz⟩)
theorem le_prevI (x y:Int):decide (x≤y) = !ltI y x:=by
 unfold ltI
 rw[Bool.eq_iff_iff];simp
theorem isSetI_any (g:Nat) (eg:∀ args w,(callFunc g args).run Tryz.prog w=.ok (.enter g args) w) (right:Int→Bool) (A:Option Addr) (n c:Nat) (xs:List Int) (most:Nat) (w:World)
  (hp:∀ x,∀ W,Calls Tryz.prog g #[.int .i64 x] W (Zx W (.bool (right x)))) (hA:Reads w 1 A n (xs.map (.int .i64))) (hn:n≤1000000000) (hm:most≤1000000) :
  Calls Tryz.prog 123 #[.slice A n c,.int .i64 most,.func (.func g) #[] #[]] w (Zx w (.bool (setB ltI right most xs))):=by
 have hl:xs.length=n:=by have:=hA.1;simp at this;omega
 have HP:=Lib.hid hp;have HA:=Lib.hid hA;have HL:=Lib.hid hl
 obtain⟨V,hV⟩:∃ V,V=setB ltI right most xs:=⟨_,rfl⟩
 rw[←hV]
 have HV:=Lib.hid hV
 clear hp hA hl hV
 go_enter Tryz.func123,Tryz.ntmps123
 go_wp2
 go_loopw [11] (fun i wr=>∃ k:Nat,k≤n∧i=.int .i64 k∧Hid ((List.range k).all (Jt ltI right xs)=true)∧Below w.heap.size w wr) (fun i _=>n-(intOf i).toNat)
 case atStart=>exact⟨0,by omega,rfl,Lib.hid rfl,Below.refl _ _⟩
 case round =>
  obtain⟨k,hk,rfl,HK,hb⟩:=hrel
  by_cases hlt:k<n
  ·obtain⟨x,hx⟩:∃ x,xs[k]? = some x:=⟨_,List.getElem?_eq_getElem (by have:=HL.out;omega)⟩
   obtain⟨pb,po,rfl,hcell⟩:=(HA.out.keep hb).2 (by omega)
   have hc1:wr.cell? ⟨pb,po+k,none⟩=some (.int .i64 x):=hcell k _ (by simp[hx])
   have hc:=fun W=>HP.out x W
   have hok:Jt ltI right xs k=(right x&&(k==0||(match xs[k-1]? with
    | none=>true
    | some y=>ltI y x))):=by unfold Jt;rw[hx];cases xs[k-1]? <;> rfl
   have hfail:Jt ltI right xs k=false→V=false:=fun h=>by rw[HV.out];exact okK_fail (by have:=HL.out;omega) h
   cases hr:right x
   ·have hVf:V=false:=hfail (by rw[hok,hr];rfl)
    rw[hr]at hc
    have HC:=Lib.hid hc
    clear hc hr hok hfail hcell hx
    subst hVf
    go_wp2_with (go_at_fn g;refine (HC.out _).mono ?_;rintro e w2 ⟨rfl,hb2⟩)
    go_ret
    exact⟨rfl,Qz⟩
   ·rw[hr]at hc
    have HC:=Lib.hid hc
    rcases k with _ | j
    ·have HK2:Hid ((List.range (0+1)).all (Jt ltI right xs)=true):=Lib.hid (X9 HK.out (by rw[hok,hr];rfl))
     simp only[Nat.add_zero]at hc1
     clear hc hr hok hfail hcell hx
     go_wp2_with (go_at_fn g;refine (HC.out _).mono ?_;rintro e w2 ⟨rfl,hb2⟩)
     exact⟨⟨1,by omega,by go_num,HK2,Qz⟩,by simp[intOf];omega⟩
    ·obtain⟨y,hy⟩:∃ y,xs[j]? = some y:=⟨_,List.getElem?_eq_getElem (by have:=HL.out;omega)⟩
     have hc2:wr.cell? ⟨pb,po+j,none⟩=some (.int .i64 y):=hcell j _ (by simp[hy])
     have hle:=le_prevI x y
     rw[Nat.add_sub_cancel,hy]at hok
     have hok:Jt ltI right xs (j+1)=ltI y x:=by rw[hok,hr];simp
     have hj0:(0:Int)≤(j:Int):=by omega
     have hj1:(j:Int)<(n:Int):=by omega
     cases ht:ltI y x
     ·have hVf:V=false:=hfail (by rw[hok,ht])
      rw[ht]at hle
      clear hc hr hok hfail hcell hx hy
      subst hVf
      go_wp2_with (go_at_fn g;refine (HC.out _).mono ?_;rintro e w2 ⟨rfl,hb2⟩;have hc3:=Qq hb2 hc2)
      go_ret
      exact⟨rfl,Qz⟩
     ·have HK2:Hid ((List.range (j+1+1)).all (Jt ltI right xs)=true):=Lib.hid (X9 HK.out (by rw[hok,ht]))
      rw[ht]at hle
      clear hc hr hok hfail hcell hx hy
      go_wp2_with (go_at_fn g;refine (HC.out _).mono ?_;rintro e w2 ⟨rfl,hb2⟩;have hc3:=Qq hb2 hc2)
      exact⟨⟨j+1+1,by omega,by go_num,HK2,Qz⟩,by simp[intOf];omega⟩
  ·obtain rfl:k=n:=by omega
   have hv:V=decide (k≤most):=by rw[HV.out];unfold setB;rw[HL.out,HK.out];rfl
   by_cases hm2:k≤most
   ·rw[decide_eq_true hm2]at hv
    have d1:decide ((k:Int)≤most)=true:=decide_eq_true (by omega)
    subst hv
    go_wp2
    go_ret
    exact⟨rfl,hb⟩
   ·rw[decide_eq_false hm2]at hv
    have d1:decide ((k:Int)≤most)=false:=decide_eq_false (by omega)
    subst hv
    go_wp2
    go_ret
    exact⟨rfl,hb⟩
def anyP:Z7:=⟨⟨2,⟨#[]⟩⟩,[],true⟩
theorem any_fit:Zt anyP:=⟨.inr ⟨rfl,rfl⟩,(by intro p hp;cases hp),by decide⟩
theorem any_str:VW anyP=⟨#[42,47,42,42]⟩:=Qm (by
 rw[Y6,J3,Jl]
 rfl)
theorem any_comp:Qx ⟨#[42,47,42,42]⟩=some anyP:=by rw[←any_str];exact UY any_fit
theorem any_match (a:Adr):Xu anyP a=true:=by
 unfold Xu anyP
 rw[has2]
 simp[QQ]
def VV (p:ByteArray):ByteArray:=if p.size=0 then ⟨#[42,47,42,42]⟩ else p
def pmA (p:ByteArray) (a:Adr):Bool:=matchO (Qx (VV p)) a
theorem patT_some {p:ByteArray} (h:Uc p=true):∃ x,Qx (VV p)=some x∧Zt x:=by
 unfold VV
 by_cases h0:p.size=0
 ·rw[if_pos h0];exact⟨_,any_comp,any_fit⟩
 ·rw[if_neg h0]
  obtain⟨x,hx⟩:=patOk_some h h0
  exact⟨x,hx,Zq hx⟩
theorem pmA_meet {p q:ByteArray} (hp:Uc p=true) (hq:Uc q=true) (a:Adr):(match X3 p q with | some r=>pmA r a | none=>false)=(pmA p a&&pmA q a):=by
 have h0:∀ s:ByteArray,s.size=0→pmA s a=true:=fun s hs=>by
  unfold pmA VV;rw[if_pos hs,any_comp];exact any_match a
 by_cases h1:p.size=0
 ·have e1:X3 p q=some q:=by unfold X3;rw[if_pos h1]
  rw[e1,h0 p h1,Bool.true_and]
 ·by_cases h2:q.size=0
  ·have e1:X3 p q=some p:=by unfold X3;rw[if_neg h1,if_pos h2]
   rw[e1,h0 q h2,Bool.and_true]
  ·obtain⟨x,hx⟩:=patOk_some hp h1
   obtain⟨y,hy⟩:=patOk_some hq h2
   have fx:=Zq hx
   have fy:=Zq hy
   have e:∀ (s:ByteArray) (z:Z7),s.size≠0→Qx s=some z→pmA s a=Xu z a:=fun s z hs hz=>by
    unfold pmA VV;rw[if_neg hs,hz];rfl
   rw[pmeet_two h1 h2 hx hy,e p x h1 hx,e q y h2 hy,←common_match fx fy]
   cases h:QK x y with
   | none=>rfl
   | some z =>
    have fz:=(J4 fx fy h).1
    exact e (VW z) z (patS_ne fz) (UY fz)
structure Kr where
 addr:ByteArray
 client:ByteArray
 country:ByteArray
 site:Int
 lo:Int
 hi:Int
def Jg (a:Kr):Bool:=readB a.addr&&Qy a.client&&Zn a.country&&Jb a.site&&decide (0≤a.lo∧a.lo≤a.hi∧a.hi≤1099511627776)
def Yj (c:ZV) (a:Kr):Bool:=Xj c&&Jg a&&decide (c.fr≤a.lo∧a.hi<c.till)&&Zk (VV c.pat) a.addr&&Xg c.cl a.client&&Xg c.co a.country&&Xg c.si a.site
theorem match_pmA {p:ByteArray} (hp:Uc p=true) {s:ByteArray} (hs:readB s=true):Zk (VV p) s=pmA p (QW s).1:=by
 obtain⟨x,hx,_⟩:=patT_some hp
 unfold Zk pmA
 rw[hx]
 show (readB s&&Xu x (QW s).1)=Xu x (QW s).1
 rw[hs,Bool.true_and]
theorem holds_iff {c:ZV} (hc:CondOk c) (a:Kr):Yj c a=true↔Jg a=true∧(c.fr≤a.lo∧a.hi<c.till)∧pmA c.pat (QW a.addr).1=true∧Xg c.cl a.client=true∧Xg c.co a.country=true∧Xg c.si a.site=true:=by
 unfold Yj
 rw[(valid_iff c).2 hc]
 simp only[Bool.true_and,Bool.and_eq_true,decide_eq_true_eq]
 have hv:Jg a=true→readB a.addr=true:=fun h=>by
  unfold Jg at h
  simp only[Bool.and_eq_true]at h
  exact h.1.1.1.1
 constructor
 ·rintro⟨⟨⟨⟨⟨h1,h2⟩,h3⟩,h4⟩,h5⟩,h6⟩
  rw[match_pmA hc.pat (hv h1)]at h3
  exact⟨h1,h2,h3,h4,h5,h6⟩
 ·rintro⟨h1,h2,h3,h4,h5,h6⟩
  rw[←match_pmA hc.pat (hv h1)]at h3
  exact⟨⟨⟨⟨⟨h1,h2⟩,h3⟩,h4⟩,h5⟩,h6⟩
theorem ltB_ir (a:ByteArray):KQ a a=false:=by unfold KQ;exact decide_eq_false (List.lt_irrefl _)
theorem allows_iff {α:Type} [DecidableEq α] (l:List α) (x:α):Xg l x=true↔l=[]∨x∈l:=by
 unfold Xg
 rw[Bool.or_eq_true,List.isEmpty_iff,List.contains_iff_mem]
end Go.Proofs.YticlbkficolocaaGreatDoor
