/- Plain: the keys of headers, and headers that one way to vary tells apart and another one does not. -/
import Derived.Test.YticlbkficolocaaGreatDoorIZ12
namespace Go.Proofs.YticlbkficolocaaGreatDoor
open Go.RowKit Go.Sort
set_option linter.unusedVariables false
set_option linter.unusedSimpArgs false
set_option maxRecDepth 100000
def ZK (v:Zo) (h:List Hdr):ByteArray:=match h.find? fun x=>x.name.toList==v.header.toList with
 | some x=>if Lib.containsS v.values x.value then x.value else v.dflt
 | none=>v.dflt
def escB (b:UInt8):List UInt8:=if b=37 then [37,50,53] else if b=38 then [37,50,54] else if b=61 then [37,51,100] else [b]
def Jy (s:List UInt8):List UInt8:=s.flatMap escB
def partV (v:Zo) (x:ByteArray):List UInt8:=v.header.data.toList++61 :: Jy x.data.toList
def keyL (l:List Zo) (xs:List ByteArray):List UInt8:=Lib.join (List.zipWith partV l xs) [38]
def keyV (l:List Zo) (h:List Hdr):List UInt8:=keyL l (l.map fun v=>ZK v h)
theorem escB_no (b:UInt8):38 ∉ escB b:=by
 unfold escB
 split
 ·decide
 ·split
  ·decide
  ·split
   ·decide
   ·rename_i h _
    simp only[List.mem_singleton]
    exact fun e=>h e.symm
theorem escL_no (s:List UInt8):38 ∉ Jy s:=by
 unfold Jy
 rw[List.mem_flatMap]
 rintro⟨b,_,h⟩
 exact escB_no b h
theorem escL_inj:∀ (s t:List UInt8),Jy s=Jy t→s=t
 | [],[],_=>rfl
 | [],b :: t,h=>by
  exfalso
  have:escB b ≠ []:=by unfold escB;split;simp;split;simp;split <;> simp
  rw[Jy,Jy,List.flatMap_nil,List.flatMap_cons]at h
  exact this (List.append_eq_nil_iff.1 h.symm).1
 | a :: s,[],h=>by
  exfalso
  have:escB a ≠ []:=by unfold escB;split;simp;split;simp;split <;> simp
  rw[Jy,Jy,List.flatMap_nil,List.flatMap_cons]at h
  exact this (List.append_eq_nil_iff.1 h).1
 | a :: s,b :: t,h=>by
  rw[Jy,Jy,List.flatMap_cons,List.flatMap_cons]at h
  have key:a=b∧Jy s=Jy t:=by
   unfold escB at h
   by_cases a1:a=37
   ·subst a1
    rw[if_pos rfl]at h
    by_cases b1:b=37
    ·subst b1;rw[if_pos rfl]at h;simp at h;exact⟨rfl,h⟩
    ·rw[if_neg b1]at h
     by_cases b2:b=38
     ·subst b2;rw[if_pos rfl]at h;simp at h
     ·rw[if_neg b2]at h
      by_cases b3:b=61
      ·subst b3;rw[if_pos rfl]at h;simp at h
      ·rw[if_neg b3]at h;simp at h;exact absurd h.1.symm b1
   ·rw[if_neg a1]at h
    by_cases a2:a=38
    ·subst a2
     rw[if_pos rfl]at h
     by_cases b1:b=37
     ·subst b1;rw[if_pos rfl]at h;simp at h
     ·rw[if_neg b1]at h
      by_cases b2:b=38
      ·subst b2;rw[if_pos rfl]at h;simp at h;exact⟨rfl,h⟩
      ·rw[if_neg b2]at h
       by_cases b3:b=61
       ·subst b3;rw[if_pos rfl]at h;simp at h
       ·rw[if_neg b3]at h;simp at h;exact absurd h.1.symm b1
    ·rw[if_neg a2]at h
     by_cases a3:a=61
     ·subst a3
      rw[if_pos rfl]at h
      by_cases b1:b=37
      ·subst b1;rw[if_pos rfl]at h;simp at h
      ·rw[if_neg b1]at h
       by_cases b2:b=38
       ·subst b2;rw[if_pos rfl]at h;simp at h
       ·rw[if_neg b2]at h
        by_cases b3:b=61
        ·subst b3;rw[if_pos rfl]at h;simp at h;exact⟨rfl,h⟩
        ·rw[if_neg b3]at h;simp at h;exact absurd h.1.symm b1
     ·rw[if_neg a3]at h
      by_cases b1:b=37
      ·subst b1;rw[if_pos rfl]at h;simp at h;exact absurd h.1 a1
      ·rw[if_neg b1]at h
       by_cases b2:b=38
       ·subst b2;rw[if_pos rfl]at h;simp at h;exact absurd h.1 a1
       ·rw[if_neg b2]at h
        by_cases b3:b=61
        ·subst b3;rw[if_pos rfl]at h;simp at h;exact absurd h.1 a1
        ·rw[if_neg b3]at h;simp at h;exact⟨h.1,h.2⟩
  rw[key.1,escL_inj s t key.2]
theorem join_inj (c:UInt8):∀ (xs ys:List (List UInt8)),xs.length=ys.length→(∀ x∈xs,c ∉ x)→(∀ y∈ys,c ∉ y)→Lib.join xs [c]=Lib.join ys [c]→xs=ys:=by
 have tl:∀ (l:List (List UInt8)),Lib.joinTail [c] l=[]∨∃ r,Lib.joinTail [c] l=c :: r:=fun l=>by
  cases l with
  | nil=>exact .inl rfl
  | cons x l=>exact .inr ⟨x++Lib.joinTail [c] l,by simp[Lib.joinTail]⟩
 have cut:∀ (x y r s:List UInt8),c ∉ x→c ∉ y→(r=[]∨∃ q,r=c :: q)→(s=[]∨∃ q,s=c :: q)→x++r=y++s→x=y∧r=s:=by
  intro x
  induction x with
  | nil =>
   intro y r s _ hy hr hs h
   cases y with
   | nil=>exact⟨rfl,h⟩
   | cons b y =>
    exfalso
    rcases hr with rfl | ⟨q,rfl⟩
    ·simp at h
    ·simp at h
     exact hy (by simp[h.1])
  | cons a x ih =>
   intro y r s hx hy hr hs h
   cases y with
   | nil =>
    exfalso
    rcases hs with rfl | ⟨q,rfl⟩
    ·simp at h
    ·simp at h
     exact hx (by simp[h.1])
   | cons b y =>
    rw[List.cons_append,List.cons_append]at h
    injection h with h1 h2
    obtain⟨e1,e2⟩:=ih y r s (fun h=>hx (by simp[h])) (fun h=>hy (by simp[h])) hr hs h2
    exact⟨by rw[h1,e1],e2⟩
 have tails:∀ (xs ys:List (List UInt8)),xs.length=ys.length→(∀ x∈xs,c ∉ x)→(∀ y∈ys,c ∉ y)→Lib.joinTail [c] xs=Lib.joinTail [c] ys→xs=ys:=by
  intro xs
  induction xs with
  | nil=>intro ys hl _ _ _;exact (List.eq_nil_of_length_eq_zero (by simpa using hl.symm)).symm
  | cons x xs ih =>
   intro ys hl hx hy h
   cases ys with
   | nil=>simp at hl
   | cons y ys =>
    have e:∀ (z:List UInt8) (l:List (List UInt8)),Lib.joinTail [c] (z :: l)=c :: (z++Lib.joinTail [c] l):=fun z l=>by simp[Lib.joinTail]
    rw[e,e]at h
    injection h with _ h
    obtain⟨e1,e2⟩:=cut x y _ _ (hx x (by simp)) (hy y (by simp)) (tl xs) (tl ys) h
    rw[e1,ih ys (by simpa using hl) (fun z hz=>hx z (by simp[hz])) (fun z hz=>hy z (by simp[hz])) e2]
 intro xs ys hl hx hy h
 cases xs with
 | nil=>exact (List.eq_nil_of_length_eq_zero (by simpa using hl.symm)).symm
 | cons x xs =>
  cases ys with
  | nil=>simp at hl
  | cons y ys =>
   rw[Lib.join_cons,Lib.join_cons]at h
   obtain⟨e1,e2⟩:=cut x y _ _ (hx x (by simp)) (hy y (by simp)) (tl xs) (tl ys) h
   rw[e1,tails xs ys (by simpa using hl) (fun z hz=>hx z (by simp[hz])) (fun z hz=>hy z (by simp[hz])) e2]
def HdrOk (l:List Zo):Prop:=∀ v∈l,38 ∉ v.header.data.toList
theorem part_no {v:Zo} (h:38 ∉ v.header.data.toList) (x:ByteArray):38 ∉ partV v x:=by
 unfold partV
 simp only[List.mem_append,List.mem_cons,not_or]
 exact⟨h,by decide,escL_no _⟩
theorem key_eq {l:List Zo} (hl:HdrOk l) (g h:List Hdr):keyV l g=keyV l h↔∀ v∈l,ZK v g=ZK v h:=by
 have zm:∀ (l:List Zo) (f:Zo→ByteArray),List.zipWith partV l (l.map f)=l.map fun v=>partV v (f v):=by
  intro l f
  induction l with
  | nil=>rfl
  | cons v l ih=>rw[List.map_cons,List.zipWith_cons_cons,ih,List.map_cons]
 unfold keyV keyL
 rw[zm,zm]
 constructor
 ·intro h1
  have h2:=join_inj 38 _ _ (by simp) (fun x hx=>by obtain⟨v,hv,rfl⟩:=List.mem_map.1 hx;exact part_no (hl v hv) _) (fun x hx=>by obtain⟨v,hv,rfl⟩:=List.mem_map.1 hx;exact part_no (hl v hv) _) h1
  intro v hv
  have h3:=List.map_inj_left.1 h2 v hv
  unfold partV at h3
  have h4:=List.append_cancel_left h3
  injection h4 with _ h4
  exact Qm (escL_inj _ _ h4)
 ·intro h1
  congr 1
  exact List.map_inj_left.2 fun v hv=>by rw[h1 v hv]
def ZY (l:List Zo) (g h:List Hdr):Bool:=decide (keyV l g=keyV l h)
theorem same_iff {l:List Zo} (hl:HdrOk l) (g h:List Hdr):ZY l g h=true↔∀ v∈l,ZK v g=ZK v h:=by
 unfold ZY
 rw[decide_eq_true_eq,key_eq hl]
structure YV (a:List Zo) (v:Zo) (S:List (List Hdr)):Prop where
 none : []∈S
 all:∀ x,(x∈v.values∨∃ u∈a,u.header=v.header∧x∈u.values)→[(⟨v.header,x⟩:Hdr)]∈S
theorem value_one (u:Zo) (n x:ByteArray):ZK u [⟨n,x⟩]=if n=u.header then (if Lib.containsS u.values x then x else u.dflt) else u.dflt:=by
 unfold ZK
 by_cases h:n=u.header
 ·subst h;simp
 ·have:(n.toList==u.header.toList)=false:=by
   rw[Lib.toList_data,Lib.toList_data]
   simp only[beq_eq_false_iff_ne,ne_eq]
   exact fun e=>h (Qm e)
  simp[List.find?,this,h]
theorem sample_of {a:List Zo} {v:Zo} {S:List (List Hdr)} (hS:YV a v S) (h:List Hdr):∃ g∈S,ZK v g=ZK v h∧(∀ u∈a,u.header=v.header→ZK u g=ZK u h)∧(∀ u:Zo,u.header≠v.header→ZK u g=u.dflt):=by
 cases hf:h.find? fun x=>x.name.toList==v.header.toList with
 | none =>
  refine⟨[],hS.none,?_,fun u _ hu=>?_,fun u _=>rfl⟩
  ·unfold ZK;rw[hf];rfl
  ·unfold ZK;rw[hu,hf];rfl
 | some x =>
  have hx:x.name=v.header:=Qm (by
   have:=List.find?_some hf
   rw[Lib.toList_data,Lib.toList_data]at this
   simpa using this)
  by_cases hin:x.value∈v.values∨∃ u∈a,u.header=v.header∧x.value∈u.values
  ·refine⟨[⟨v.header,x.value⟩],hS.all x.value hin,?_,fun u _ hu=>?_,fun u hu=>?_⟩
   ·rw[value_one,if_pos rfl];unfold ZK;rw[hf]
   ·rw[value_one,if_pos hu.symm];unfold ZK;rw[hu,hf]
   ·rw[value_one,if_neg (fun e=>hu e.symm)]
  ·simp only[not_or,not_exists,not_and]at hin
   refine⟨[],hS.none,?_,fun u hu hh=>?_,fun u _=>rfl⟩
   ·unfold ZK
    rw[hf]
    have:Lib.containsS v.values x.value=false:=by
     cases hc:Lib.containsS v.values x.value
     ·rfl
     ·exact absurd ((Lib.containsS_iff _ _).1 hc) hin.1
    dsimp only
    rw[this];rfl
   ·unfold ZK
    rw[hh,hf]
    have:Lib.containsS u.values x.value=false:=by
     cases hc:Lib.containsS u.values x.value
     ·rfl
     ·exact absurd ((Lib.containsS_iff _ _).1 hc) (hin.2 u hu hh)
    dsimp only
    rw[this];rfl
theorem apart_none {a b:List Zo} (ha:HdrOk a) (hb:HdrOk b) (h:∀ v∈b,∃ S,YV a v S∧∀ g∈S,∀ k∈S,ZY a g k=true→ZY b g k=true) (g k:List Hdr) (hs:ZY a g k=true):ZY b g k=true:=by
 rw[same_iff hb]
 intro v hv
 obtain⟨S,hS,hall⟩:=h v hv
 obtain⟨g',hg',e1,e2,e3⟩:=sample_of hS g
 obtain⟨k',hk',f1,f2,f3⟩:=sample_of hS k
 have hsame:ZY a g' k'=true:=by
  rw[same_iff ha]at hs ⊢
  intro u hu
  by_cases hh:u.header=v.header
  ·rw[e2 u hu hh,f2 u hu hh];exact hs u hu
  ·rw[e3 u hh,f3 u hh]
 have:=(same_iff hb g' k').1 (hall g' hg' k' hk' hsame) v hv
 rw[←e1,←f1];exact this
theorem same_comm (l:List Zo) (g h:List Hdr):ZY l g h=ZY l h g:=by unfold ZY;exact decide_eq_decide.2 eq_comm
theorem same_refl (l:List Zo) (g:List Hdr):ZY l g g=true:=by unfold ZY;exact decide_eq_true rfl
end Go.Proofs.YticlbkficolocaaGreatDoor
