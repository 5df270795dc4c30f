/- Plain: the specification's parts of patterns are the program's. -/
import Derived.Test.YticlbkficolocaaGreatDoorIZ17
set_option maxHeartbeats 8000000
namespace Go.Proofs.YticlbkficolocaaGreatDoor
open Go.RowKit Go.Sort
set_option linter.unusedVariables false
set_option linter.unusedSimpArgs false
set_option maxRecDepth 100000
def Qr (p:Part):ByteArray:=Qp p.kind p.text
theorem sufB_word {s:ByteArray} (h:Qg s=true):Yq s=false:=by
 have h42:=(X5 h).2.2.2.2.1
 unfold Yq
 rw[Bool.and_eq_false_iff]
 right
 rw[beq_eq_false_iff_ne]
 intro e
 exact h42 (List.mem_of_mem_head? (by rw[e];rfl))
theorem ends_star {p t:ByteArray} (w:ByteArray) (h:p.data.toList=42 :: t.data.toList):endsB p w=(decide (t.size<w.size)&&Lib.hasSuffix w.data.toList t.data.toList):=by
 have hz:p.size=t.size+1:=by rw[Qn,h,Qn];rfl
 have e:p.extract 1 p.size=t:=Qm (by rw[extract_data,h];rfl)
 unfold endsB
 rw[e,hz,YZ,Nat.add_sub_cancel]
 by_cases hl:t.size<w.size
 ·rw[decide_eq_true hl,decide_eq_true (show t.size≤w.size by omega),Bool.true_and,Bool.true_and]
 ·rw[decide_eq_false hl,Bool.false_and,Bool.false_and]
theorem toList_eq (a b:ByteArray):(a.toList==b.toList)=(a.data.toList==b.data.toList):=by rw[Lib.toList_data,Lib.toList_data]
theorem V7 {w:ByteArray} (h:Qg w=true) (l:List UInt8):w.data.toList≠42 :: l:=fun e=>(X5 h).2.2.2.2.1 (by rw[e];simp)
theorem fit_end {p:Part} (h:p.kind=1∧∃ s:ByteArray,Qg s=true∧s.size≤32∧p.text.data.toList=46 :: s.data.toList):p.text.data.toList ≠ []∧1≤p.text.size:=by
 obtain⟨_,s,_,_,h⟩:=h
 rw[Qn,h]
 exact⟨by simp,by simp⟩
theorem str0 {p:Part} (h:p.kind=0):Qr p=p.text:=by unfold Qr Qp;rw[if_pos h]
theorem VK {p:Part} (h:p.kind≠0):(Qr p).data.toList=42 :: p.text.data.toList:=by
 unfold Qr;rw[Jl,if_neg h]
theorem suf_star {p:Part} (h:p.kind≠0) (hz:1≤p.text.size):Yq (Qr p)=true:=by
 unfold Yq
 have e:=VK h
 rw[Qn,e]
 rw[Qn]at hz
 rw[decide_eq_true (show 1<(42 :: p.text.data.toList).length by simp only[List.length_cons];omega)]
 rfl
theorem U4 {p q:Part} (hp:Qa p) (hq:Qa q):covB (Qr p) (Qr q)=Zb p.kind p.text q.kind q.text:=by
 rw[Bool.eq_iff_iff]
 unfold covB
 have sq:∀ h:q.kind=0,Qg q.text=true:=fun h=>by
  rcases hq with ⟨_,h2⟩ | ⟨h2,_⟩ | ⟨h2,_⟩
  ·exact h2
  ·omega
  ·omega
 rcases hp with ⟨hk,ht⟩ | h1 | ⟨hk,ht⟩
 ·have h42:((Qr p).toList == [42])=false:=by
   rw[str0 hk,Lib.toList_data,beq_eq_false_iff_ne];exact V7 ht []
  rw[h42,Bool.false_or,str0 hk,sufB_word ht,Bool.false_and,Bool.false_and,Bool.or_false,hk,toList_eq,beq_iff_eq]
  rcases hq with ⟨hk2,ht2⟩ | h2 | ⟨hk2,ht2⟩
  ·rw[hk2,cov0,has0,str0 hk2]
   exact⟨fun h=>Qm h,fun h=>by rw[h]⟩
  ·rw[h2.1,cov1,VK (p:=q) (by omega)]
   constructor
   ·intro h;exact absurd h (V7 ht _)
   ·rintro (h | ⟨h,_⟩) <;> cases h
  ·rw[hk2,cov2,VK (p:=q) (by omega)]
   constructor
   ·intro h;exact absurd h (V7 ht _)
   ·intro h;cases h
 ·obtain⟨hne,hz⟩:=fit_end h1
  have hk:=h1.1
  have e:=VK (p:=p) (by omega)
  have h42:((Qr p).toList == [42])=false:=by
   rw[Lib.toList_data,e,beq_eq_false_iff_ne]
   intro h;injection h with _ h;exact hne h
  rw[h42,Bool.false_or,suf_star (by omega) hz,Bool.true_and,hk]
  rcases hq with ⟨hk2,ht2⟩ | h2 | ⟨hk2,ht2⟩
  ·have h43:((Qr p).toList==(Qr q).toList)=false:=by
    rw[toList_eq,e,str0 hk2,beq_eq_false_iff_ne]
    exact fun h=>V7 ht2 _ h.symm
   have h44:((Qr q).toList == [42])=false:=by
    rw[str0 hk2,Lib.toList_data,beq_eq_false_iff_ne];exact V7 ht2 []
   rw[h43,h44,Bool.false_or,Bool.not_false,Bool.true_and,str0 hk2,sufB_word ht2,hk2,cov0,has1]
   simp only[Bool.false_eq_true,if_false]
   rw[ends_star _ e]
   simp only[Bool.and_eq_true,decide_eq_true_eq,Lib.hasSuffix,List.isSuffixOf_iff_suffix]
  ·obtain⟨hne2,hz2⟩:=fit_end h2
   have e2:=VK (p:=q) (by omega)
   have h44:((Qr q).toList == [42])=false:=by
    rw[Lib.toList_data,e2,beq_eq_false_iff_ne]
    intro h;injection h with _ h;exact hne2 h
   have hx:((⟨#[97]⟩:ByteArray)++(Qr q).extract 1 (Qr q).size).data.toList=97 :: q.text.data.toList:=by
    have h3:(Qr q).extract 1 (Qr q).size=q.text:=Qm (by rw[extract_data,e2];rfl)
    rw[h3];simp
   rw[h44,Bool.not_false,Bool.true_and,suf_star (by omega) hz2,if_pos rfl,ends_star _ e,h2.1,cov1,Bool.or_eq_true,toList_eq,e,e2,beq_iff_eq]
   rw[Bool.and_eq_true,decide_eq_true_eq,Qn,Qn,hx,Lib.hasSuffix,List.isSuffixOf_iff_suffix]
   constructor
   ·rintro (h | ⟨h3,h4⟩)
    ·injection h with _ h
     right;exact⟨rfl,by rw[h];exact List.suffix_refl _⟩
    ·right
     refine⟨rfl,?_⟩
     rcases List.suffix_cons_iff.1 h4 with h5 | h5
     ·rw[h5]at h3;simp at h3
     ·exact h5
   ·rintro (h | ⟨_,h⟩)
    ·cases h
    ·right
     have:=h.length_le
     exact⟨by simp only[List.length_cons];omega,h.trans (List.suffix_cons _ _)⟩
  ·have e2:=VK (p:=q) (by omega)
   have h43:((Qr p).toList==(Qr q).toList)=false:=by
    rw[toList_eq,e,e2,beq_eq_false_iff_ne,ht2]
    intro h;injection h with _ h;exact hne h
   have h44:((Qr q).toList == [42])=true:=by
    rw[Lib.toList_data,e2,ht2];rfl
   rw[h43,h44,hk2,cov2]
   simp
 ·have e:=VK (p:=p) (by omega)
  have h42:((Qr p).toList == [42])=true:=by rw[Lib.toList_data,e,ht];rfl
  rw[h42,Bool.true_or,Bool.true_or,hk]
  refine⟨fun _=>?_,fun _=>rfl⟩
  rcases hq with ⟨hk2,ht2⟩ | h2 | ⟨hk2,ht2⟩
  ·rw[hk2,cov0];exact has2 _ _
  ·rw[h2.1,cov1];exact .inl rfl
  ·rw[hk2,cov2]
theorem part_ok (s:ByteArray):partR s=Kv s:=by
 unfold partR Kv
 have hx:((s.extract 0 2).toList == [42,46])=Lib.hasPrefix s.data.toList [42,46]:=by
  rw[Lib.toList_data,Lib.extract_data]
  unfold Lib.hasPrefix
  rw[Bool.eq_iff_iff,beq_iff_eq,List.isPrefixOf_iff_prefix]
  constructor
  ·intro h
   refine⟨s.data.toList.drop 2,?_⟩
   rw[←h]
   simp
  ·rintro⟨r,h⟩
   rw[←h];simp
 rw[hx]
 cases hp:Lib.hasPrefix s.data.toList [42,46]
 ·simp
 ·obtain⟨r,hr⟩:=prefix_two hp
  have e:(s.extract 2 s.size).data.toList=r:=by rw[extract_data,hr];rfl
  have hz:s.size=r.length+2:=by rw[Qn,hr];rfl
  have h42:(s.toList == [42])=false:=by rw[Lib.toList_data,hr,beq_eq_false_iff_ne];simp
  have hw:Qg s=false:=by
   cases h:Qg s
   ·rfl
   ·exact absurd hr (V7 h _)
  rw[h42,hw]
  simp only[Bool.and_true,Bool.false_or,Bool.and_true]
  by_cases h2:2<s.size
  ·rw[if_pos (by simpa using h2)]
  ·rw[if_neg (by simpa using h2)]
   have:Qg (s.extract 2 s.size)=false:=by
    cases h:Qg (s.extract 2 s.size)
    ·rfl
    ·have:=(Uy h).1
     rw[e]at this
     exact absurd (List.eq_nil_of_length_eq_zero (by omega)) this
   rw[this,Bool.and_false]
def VQ (l:List (List UInt8)):Nat:=(Zv l).length
theorem Ui (x:List UInt8) (l:List (List UInt8)):VQ (x :: l)=x.length+1+VQ l:=by simp[VQ,Zv];omega
theorem Yb:VQ []=0:=rfl
theorem totP_app (a b:List (List UInt8)):VQ (a++b)=VQ a+VQ b:=by simp[VQ,Zv]
theorem split_tot (c:UInt8):∀ l:List UInt8,VQ (Zz c l)=l.length+1
 | []=>by simp[Zz,Ui,Yb]
 | b :: l=>by
  have ih:=split_tot c l
  unfold Zz
  split
  ·rw[Ui,ih];simp;omega
  ·cases hs:Zz c l with
   | nil=>exact absurd hs (Yd c l)
   | cons p ps =>
    rw[hs,Ui]at ih
    simp only[Ui,List.length_cons]
    omega
theorem lists_split (c:UInt8) (s:ByteArray):lists (splitB c s)=Zz c s.data.toList:=by
 unfold splitB lists
 rw[List.map_map]
 conv=>rhs;rw[←List.map_id (Zz c s.data.toList)]
 exact List.map_congr_left fun x _=>rfl
theorem totP_dropLast (l:List ByteArray):VQ (lists l.dropLast)≤VQ (lists l):=by
 rcases List.eq_nil_or_concat l with rfl | ⟨a,x,rfl⟩
 ·exact Nat.le_refl _
 ·rw[List.concat_eq_append,List.dropLast_concat]
  unfold lists
  rw[List.map_append,totP_app]
  omega
theorem res_tot:∀ (ps out r:List ByteArray),Yx out ps=some r→VQ (lists r)≤VQ (lists out)+VQ (lists ps)
 | [],out,r,e=>by simp[Yx]at e;subst e;simp[lists,Yb]
 | p :: ps,out,r,e=>by
  rw[Yx]at e
  cases hs:Jc out p with
  | none=>rw[hs]at e;cases e
  | some o =>
   rw[hs,Option.bind_some]at e
   have ih:=res_tot ps o r e
   have ho:VQ (lists o)≤VQ (lists out)+(p.data.toList.length+1):=by
    unfold Jc at hs
    split at hs
    ·injection hs with hs;subst hs;omega
    ·split at hs
     ·injection hs with hs;subst hs
      have:=totP_dropLast out
      omega
     ·split at hs
      ·injection hs with hs;subst hs
       unfold lists
       rw[List.map_append,totP_app,List.map_cons,Ui]
       simp[Yb]
      ·cases hs
   have hp:VQ (lists (p :: ps))=p.data.toList.length+1+VQ (lists ps):=Ui _ _
   omega
def Vs:List (List UInt8 × List UInt8)→Nat
 | []=>0
 | q :: l=>q.1.length+q.2.length+2+Vs l
theorem query_tot:∀ (sep:UInt8) (l:List (List UInt8 × List UInt8)),(Zu sep l).length=Vs l
 | _,[]=>rfl
 | sep,(k,v) :: l=>by simp[Zu,Vs,query_tot 38 l];omega
theorem insL_tot (p:List UInt8 × List UInt8):∀ l:List (List UInt8 × List UInt8),Vs (insL l p)≤Vs l+(p.1.length+p.2.length+2)
 | []=>by simp[insL,Vs]
 | q :: l=>by
  unfold insL
  have ih:=insL_tot p l
  split
  ·simp only[Vs];omega
  ·split <;> simp only[Vs] <;> omega
theorem fold_tot:∀ (l acc:List (List UInt8 × List UInt8)),Vs (l.foldl insL acc)≤Vs acc+Vs l
 | [],acc=>by simp[Vs]
 | p :: l,acc=>by
  have h1:=fold_tot l (insL acc p)
  have h2:=insL_tot p acc
  rw[List.foldl_cons]
  simp only[Vs]
  omega
theorem totQ_app:∀ (a b:List (List UInt8 × List UInt8)),Vs (a++b)=Vs a+Vs b
 | [],b=>by simp[Vs]
 | q :: a,b=>by simp only[List.cons_append,Vs,totQ_app a b];omega
theorem cut_tot (l:List UInt8) (c:UInt8):(Lib.cut l [c]).1.length+(if (Lib.cut l [c]).2.2 then 1+(Lib.cut l [c]).2.1.length else 0)=l.length∧((Lib.cut l [c]).2.2=false→(Lib.cut l [c]).2.1=[]):=by
 by_cases h:c∈l
 ·obtain⟨a,b,rfl,hna⟩:∃ a b,l=a++c :: b∧c ∉ a:=by
   induction l with
   | nil=>simp at h
   | cons x l ih =>
    by_cases e:x=c
    ·subst e;exact⟨[],l,rfl,by simp⟩
    ·rcases List.mem_cons.1 h with h | h
     ·exact absurd h.symm e
     ·obtain⟨a,b,h1,h2⟩:=ih h
      exact⟨x :: a,b,by rw[h1];rfl,by simp[h2];exact fun e2=>e e2.symm⟩
  rw[cut_hit a b c hna]
  simp
  omega
 ·rw[cut_none l c h]
  simp
theorem qAcc_tot:∀ (ps:List ByteArray) (acc r:List (List UInt8 × List UInt8)),VU acc ps=some r→Vs r≤Vs acc+VQ (lists ps)
 | [],acc,r,e=>by simp[VU]at e;subst e;simp[lists,Yb]
 | p :: ps,acc,r,e=>by
  rw[VU]at e
  cases hs:Uk p with
  | none=>rw[hs]at e;cases e
  | some x =>
   rw[hs]at e
   have ih:=qAcc_tot ps _ r e
   have hx:x.1.length+x.2.length+1=p.data.toList.length:=by
    unfold Uk at hs
    split at hs
    ·rename_i hc
     injection hs with hs
     subst hs
     simp only[Bool.and_eq_true]at hc
     have:=(cut_tot p.data.toList 61).1
     rw[hc.1.1]at this
     simp only[if_true]at this
     dsimp only
     omega
    ·cases hs
   have hp:VQ (lists (p :: ps))=p.data.toList.length+1+VQ (lists ps):=Ui _ _
   rw[totQ_app]at ih
   simp only[Vs]at ih
   omega
theorem pairs_tot (q:List UInt8) (r:List (ByteArray × ByteArray)) (h:JZ (Zd q)=some r):Vs (Zh r)≤(if q=[] then 0 else q.length+1):=by
 unfold JZ at h
 split at h
 ·injection h with h;subst h;simp[Zh,Vs]
 ·rename_i hne
  rw[Lib.toList_data]at hne
  have hq:q ≠ []:=fun e=>hne (by rw[e];rfl)
  rw[if_neg hq]
  obtain⟨acc,ha,rfl⟩:=Option.map_eq_some_iff.1 h
  have h1:=qAcc_tot _ _ _ ha
  rw[lists_split,split_tot]at h1
  have h2:=fold_tot acc []
  have h3:Zh ((JQ acc).map fun q=>(Zd q.1,Zd q.2))=JQ acc:=by
   unfold Zh
   rw[List.map_map]
   conv=>rhs;rw[←List.map_id (JQ acc)]
   exact List.map_congr_left fun x _=>rfl
  rw[h3]
  unfold JQ
  simp only[Vs]at h1 h2
  have h4:(Zd q).data.toList.length=q.length:=rfl
  omega
theorem trimS_le (l:List UInt8):(Lib.trimSuffix l [47]).length≤l.length:=trim_len l [47]
theorem parse_short (s:ByteArray) (h:(QW s).2=0):(Us (QW s).1.cust (QW s).1.path (QW s).1.query).length≤s.size∧s.size≤4096:=by
 unfold QW at h ⊢
 split at h
 ·cases h
 ·rename_i hs
  rw[if_neg hs]
  refine⟨?_,by omega⟩
  have hl0:=cut_tot (Y8 s.data.toList) 63
  have hc0:=cut_tot (Lib.trimSuffix (Xr s).1 [47]) 47
  have ht:=trimS_le (Xr s).1
  have hlow:=lowL_len s.data.toList
  have hp:∀ p,pathB (XJ s)=some p→VQ (lists p)≤if (XJ s).2.2 then 1+(XJ s).2.1.length else 0:=by
   intro p hp
   unfold pathB at hp
   split at hp
   ·rename_i hm
    have:=res_tot _ _ _ hp
    rw[lists_split,split_tot]at this
    have e:(Zd (XJ s).2.1).data.toList.length=(XJ s).2.1.length:=rfl
    simp only[lists,List.map_nil,Yb]at this
    rw[if_pos hm]
    unfold lists
    omega
   ·injection hp with hp;subst hp;simp[lists,Yb]
  have hq:=fun r h=>pairs_tot (Xr s).2.1 r h
  rw[Qn,←hlow]
  change (Xr s).1.length+(if (Xr s).2.2 then 1+(Xr s).2.1.length else 0)=_∧_ at hl0
  change (XJ s).1.length+(if (XJ s).2.2 then 1+(XJ s).2.1.length else 0)=_∧_ at hc0
  generalize pathB (XJ s)=rr at *
  generalize JZ (Zd (Xr s).2.1)=qq at *
  generalize Qy (Zd (XJ s).1)=nm at *
  unfold adrOf at h ⊢
  split at h
  ·split at h
   ·rename_i hl
    rw[if_pos hl]
    dsimp only
    have h1:=hp _ rfl
    have h2:=hq _ rfl
    unfold Us JV
    rw[List.length_append,List.length_append,query_tot]
    have e1:(Zd (XJ s).1).data.toList.length=(XJ s).1.length:=rfl
    unfold VQ at h1
    have h3:(if (Xr s).2.1=[] then 0 else (Xr s).2.1.length+1)≤if (Xr s).2.2 then 1+(Xr s).2.1.length else 0:=by
     split
     ·omega
     ·rename_i hne
      cases hb:(Xr s).2.2
      ·exact absurd (hl0.2 hb) hne
      ·simp;omega
    omega
   ·cases h
  ·cases h
theorem two_cells (W:World) (t:Nat) (a b:Value) (g:Nat) (hg:g=W.heap.size):(W.alloc (.cells #[a,b] t)).cell? ⟨g,0,none⟩=some a∧(W.alloc (.cells #[a,b] t)).cell? ⟨g,1,none⟩=some b:=by
 subst hg
 have h:Qv (W.alloc (.cells #[a,b] t)) W.heap.size t #[a,b] (0,0):=World.alloc_heap_new _ _
 exact⟨Qv.cell h 0,Qv.cell h 1⟩
theorem condPattern_any (fr till us:Int) (pat:ByteArray) (A B S:Option Addr) (na ca nb cb ns cs:Nat) (w:World) :
  Calls Tryz.prog 97 #[.agg #[.int .i64 fr,.int .i64 till,.string pat,.slice A na ca,.slice B nb cb,.slice S ns cs,.int .i64 us]] w (Zx w (.string (if pat.size=0 then ⟨#[42,47,42,42]⟩ else pat))):=by
 have cO:=cmpOr_any
 generalize hV:(if pat.size=0 then (⟨#[42,47,42,42]⟩:ByteArray) else pat)=V
 have HC:=Lib.hid (fun (g c:Nat) (W:World) h0 h1=>hV▸cO g c pat ⟨#[42,47,42,42]⟩ W h0 h1)
 clear cO hV
 go_enter Tryz.func97,Tryz.ntmps97
 go_wp2_with (go_at_call 161;refine (HC.out _ _ _ (two_cells _ _ _ _ _ (by simp)).1 (two_cells _ _ _ _ _ (by simp)).2).mono ?_;rintro e w2 ⟨rfl,hb2⟩)
 go_ret
 exact⟨rfl,Qz⟩
theorem allowsS_any (A:Option Addr) (n c:Nat) (xs:List ByteArray) (x:ByteArray) (w:World) (hA:Reads w 1 A n (xs.map .string)) (hn:n≤1000000000):Calls Tryz.prog 98 #[.slice A n c,.string x] w (Zx w (.bool (Xg xs x))):=by
 have hl:xs.length=n:=by have:=hA.1;simp at this;omega
 rcases Nat.eq_zero_or_pos n with h0 | h0
 ·subst h0
  obtain rfl:xs=[]:=List.eq_nil_of_length_eq_zero hl
  go_enter Tryz.func98,Tryz.ntmps98
  go_wp2
  go_ret
  exact⟨rfl,Below.refl _ _⟩
 ·have he:xs.isEmpty=false:=by cases xs;simp at hl;omega;rfl
  obtain⟨b,o,rfl,hc⟩:=hA.2 h0
  have cC:=fun (W:World) (hb:Below w.heap.size w W)=>Tryz.slices_Contains_string b o n c xs x W (by omega) (by omega) (fun j hj=>by
    refine Qq hb (hc j _ ?_)
    rw[List.getElem?_map,List.getElem?_eq_getElem hj]
    simp[List.getD_eq_getElem?_getD,List.getElem?_eq_getElem hj])
  rw[List.take_of_length_le (by omega)]at cC
  have hcs:Lib.containsS xs x=Xg xs x:=by
   unfold Xg
   rw[he,Bool.false_or,Bool.eq_iff_iff,Lib.containsS_iff]
   simp
  rw[hcs]at cC
  have HC:=Lib.hid cC
  have hn0:((n:Int)==0)=false:=by simp;omega
  clear cC hc hA hcs he
  generalize Xg xs x=res at *
  go_enter Tryz.func98,Tryz.ntmps98
  go_wp2_with (go_at_call 60;refine (HC.out _ Qz).mono ?_;rintro e w2 ⟨rfl,rfl⟩)
  go_ret
  exact⟨rfl,Qz⟩
theorem allowsI_any (A:Option Addr) (n c:Nat) (xs:List Int) (x:Int) (w:World) (hA:Reads w 1 A n (xs.map (.int .i64))) (hn:n≤1000000000):Calls Tryz.prog 99 #[.slice A n c,.int .i64 x] w (Zx w (.bool (Xg xs x))):=by
 have hl:xs.length=n:=by have:=hA.1;simp at this;omega
 rcases Nat.eq_zero_or_pos n with h0 | h0
 ·subst h0
  obtain rfl:xs=[]:=List.eq_nil_of_length_eq_zero hl
  go_enter Tryz.func99,Tryz.ntmps99
  go_wp2
  go_ret
  exact⟨rfl,Below.refl _ _⟩
 ·have he:xs.isEmpty=false:=by cases xs;simp at hl;omega;rfl
  obtain⟨b,o,rfl,hc⟩:=hA.2 h0
  have cC:=fun (W:World) (hb:Below w.heap.size w W)=>Tryz.slices_Contains_int b o n c xs x W (by omega) (by omega) (fun j hj=>by
    refine Qq hb (hc j _ ?_)
    rw[List.getElem?_map,List.getElem?_eq_getElem hj]
    simp[List.getD_eq_getElem?_getD,List.getElem?_eq_getElem hj])
  rw[List.take_of_length_le (by omega)]at cC
  have hcs:xs.contains x=Xg xs x:=by
   unfold Xg
   rw[he,Bool.false_or]
  rw[hcs]at cC
  have HC:=Lib.hid cC
  have hn0:((n:Int)==0)=false:=by simp;omega
  clear cC hc hA he hcs
  generalize Xg xs x=res at *
  go_enter Tryz.func99,Tryz.ntmps99
  go_wp2_with (go_at_call 162;refine (HC.out _ Qz).mono ?_;rintro e w2 ⟨rfl,rfl⟩)
  go_ret
  exact⟨rfl,Qz⟩
def Kr.val (a:Kr):Value:=.agg #[.string a.addr,.string a.client,.string a.country,.int .i64 a.site,.int .i64 a.lo,.int .i64 a.hi]
theorem canon_shape (s:ByteArray):∃ (t:ByteArray) (f:Int),canonV s=.tuple #[.string t,.int .i64 f]∧readB s=(decide (f=0)&&(t.toList==s.toList)):=by
 unfold canonV readB
 by_cases h:(QW s).2=0
 ·have hg:=parse_good s h
  have hsh:=parse_short s h
  have hf:V5 (QW s).1.cust (QW s).1.path (QW s).1.query=true:=(formed_iff _ _ _).2 ⟨hg,by omega⟩
  rw[if_pos h]
  unfold Vd
  rw[if_pos hf,decide_eq_true h]
  exact⟨_,0,rfl,rfl⟩
 ·rw[if_neg h]
  refine⟨_,_,rfl,?_⟩
  rw[decide_eq_false h]
  rfl
theorem validAsk_any (a:Kr) (w:World) (h1:a.addr.size≤100000) (h2:a.client.size≤100000) (h3:a.country.size≤100000) (hE:Env w):Calls Tryz.prog 96 #[Kr.val a] w (Zx w (.bool (Jg a))):=by
 obtain⟨ad,cl,co,si,lo,hi⟩:=a
 dsimp only at h1 h2 h3
 unfold Kr.val
 dsimp only
 obtain⟨V,hV⟩:∃ V,V=Jg ⟨ad,cl,co,si,lo,hi⟩:=⟨_,rfl⟩
 rw[←hV]
 unfold Jg at hV
 dsimp only at hV
 obtain⟨t,f,hcs,hrb⟩:=canon_shape ad
 have c1:=fun W h=>canonical_any ad W (by omega) h
 have c2:=fun W h=>condName_any cl W h2 h
 have c3:=fun W=>isCountry_any co W (by omega)
 have c4:=fun W=>isSite_any si W
 rw[hcs]at c1
 rw[hrb]at hV
 clear hcs hrb
 generalize Qy cl=b2 at *
 generalize Zn co=b3 at *
 generalize Jb si=b4 at *
 have C1:=Lib.hid c1
 have C2:=Lib.hid c2
 have C3:=Lib.hid c3
 have C4:=Lib.hid c4
 have HE:=Lib.hid hE
 clear c1 c2 c3 c4 hE h1 h2 h3
 by_cases t1:f=0
 rotate_left
 ·obtain rfl:V=false:=by rw[hV];simp[t1]
  have d1:(f==0)=false:=by simpa using t1
  clear hV
  (go_enter Tryz.func96,Tryz.ntmps96;go_wp2_with (first | (go_at_call 160;refine (C1.out _ (Env.keep HE.out Qz)).mono ?_;rintro e w2 ⟨rfl,hb2⟩;(have hX2:Qv w2 w.heap.size 36 #[.string ad,.string cl,.string co,.int .i64 si,.int .i64 lo,.int .i64 hi] (0,0):=(by first | exact Qv.keep hX2 hb2 | exact Qv.keep (World.alloc_heap_new _ _) hb2);have x0:=hX2.cell 0;have x1:=hX2.cell 1;have x2:=hX2.cell 2;have x3:=hX2.cell 3;have x4:=hX2.cell 4;have x5:=hX2.cell 5)) | (go_at_call 121;refine (C2.out _ (Env.keep HE.out Qz)).mono ?_;rintro e w2 ⟨rfl,hb2⟩;(have hX2:Qv w2 w.heap.size 36 #[.string ad,.string cl,.string co,.int .i64 si,.int .i64 lo,.int .i64 hi] (0,0):=(by first | exact Qv.keep hX2 hb2 | exact Qv.keep (World.alloc_heap_new _ _) hb2);have x0:=hX2.cell 0;have x1:=hX2.cell 1;have x2:=hX2.cell 2;have x3:=hX2.cell 3;have x4:=hX2.cell 4;have x5:=hX2.cell 5)) | (go_at_call 122;refine (C3.out _).mono ?_;rintro e w2 ⟨rfl,hb2⟩;(have hX2:Qv w2 w.heap.size 36 #[.string ad,.string cl,.string co,.int .i64 si,.int .i64 lo,.int .i64 hi] (0,0):=(by first | exact Qv.keep hX2 hb2 | exact Qv.keep (World.alloc_heap_new _ _) hb2);have x0:=hX2.cell 0;have x1:=hX2.cell 1;have x2:=hX2.cell 2;have x3:=hX2.cell 3;have x4:=hX2.cell 4;have x5:=hX2.cell 5)) | (go_at_call 124;refine (C4.out _).mono ?_;rintro e w2 ⟨rfl,hb2⟩;(have hX2:Qv w2 w.heap.size 36 #[.string ad,.string cl,.string co,.int .i64 si,.int .i64 lo,.int .i64 hi] (0,0):=(by first | exact Qv.keep hX2 hb2 | exact Qv.keep (World.alloc_heap_new _ _) hb2);have x0:=hX2.cell 0;have x1:=hX2.cell 1;have x2:=hX2.cell 2;have x3:=hX2.cell 3;have x4:=hX2.cell 4;have x5:=hX2.cell 5)));go_ret;exact⟨rfl,Qz⟩)
 subst t1
 have hV2:V=((t.toList==ad.toList)&&b2&&b3&&b4&&decide (0≤lo∧lo≤hi∧hi≤1099511627776)):=by rw[hV];rfl
 clear hV
 cases t2:(t.toList==ad.toList)
 ·obtain rfl:V=false:=by rw[hV2,t2];rfl
  clear hV2
  (go_enter Tryz.func96,Tryz.ntmps96;go_wp2_with (first | (go_at_call 160;refine (C1.out _ (Env.keep HE.out Qz)).mono ?_;rintro e w2 ⟨rfl,hb2⟩;(have hX2:Qv w2 w.heap.size 36 #[.string ad,.string cl,.string co,.int .i64 si,.int .i64 lo,.int .i64 hi] (0,0):=(by first | exact Qv.keep hX2 hb2 | exact Qv.keep (World.alloc_heap_new _ _) hb2);have x0:=hX2.cell 0;have x1:=hX2.cell 1;have x2:=hX2.cell 2;have x3:=hX2.cell 3;have x4:=hX2.cell 4;have x5:=hX2.cell 5)) | (go_at_call 121;refine (C2.out _ (Env.keep HE.out Qz)).mono ?_;rintro e w2 ⟨rfl,hb2⟩;(have hX2:Qv w2 w.heap.size 36 #[.string ad,.string cl,.string co,.int .i64 si,.int .i64 lo,.int .i64 hi] (0,0):=(by first | exact Qv.keep hX2 hb2 | exact Qv.keep (World.alloc_heap_new _ _) hb2);have x0:=hX2.cell 0;have x1:=hX2.cell 1;have x2:=hX2.cell 2;have x3:=hX2.cell 3;have x4:=hX2.cell 4;have x5:=hX2.cell 5)) | (go_at_call 122;refine (C3.out _).mono ?_;rintro e w2 ⟨rfl,hb2⟩;(have hX2:Qv w2 w.heap.size 36 #[.string ad,.string cl,.string co,.int .i64 si,.int .i64 lo,.int .i64 hi] (0,0):=(by first | exact Qv.keep hX2 hb2 | exact Qv.keep (World.alloc_heap_new _ _) hb2);have x0:=hX2.cell 0;have x1:=hX2.cell 1;have x2:=hX2.cell 2;have x3:=hX2.cell 3;have x4:=hX2.cell 4;have x5:=hX2.cell 5)) | (go_at_call 124;refine (C4.out _).mono ?_;rintro e w2 ⟨rfl,hb2⟩;(have hX2:Qv w2 w.heap.size 36 #[.string ad,.string cl,.string co,.int .i64 si,.int .i64 lo,.int .i64 hi] (0,0):=(by first | exact Qv.keep hX2 hb2 | exact Qv.keep (World.alloc_heap_new _ _) hb2);have x0:=hX2.cell 0;have x1:=hX2.cell 1;have x2:=hX2.cell 2;have x3:=hX2.cell 3;have x4:=hX2.cell 4;have x5:=hX2.cell 5)));go_ret;exact⟨rfl,Qz⟩)
 rw[t2]at hV2
 cases b2
 ·obtain rfl:V=false:=by rw[hV2];rfl
  clear hV2
  (go_enter Tryz.func96,Tryz.ntmps96;go_wp2_with (first | (go_at_call 160;refine (C1.out _ (Env.keep HE.out Qz)).mono ?_;rintro e w2 ⟨rfl,hb2⟩;(have hX2:Qv w2 w.heap.size 36 #[.string ad,.string cl,.string co,.int .i64 si,.int .i64 lo,.int .i64 hi] (0,0):=(by first | exact Qv.keep hX2 hb2 | exact Qv.keep (World.alloc_heap_new _ _) hb2);have x0:=hX2.cell 0;have x1:=hX2.cell 1;have x2:=hX2.cell 2;have x3:=hX2.cell 3;have x4:=hX2.cell 4;have x5:=hX2.cell 5)) | (go_at_call 121;refine (C2.out _ (Env.keep HE.out Qz)).mono ?_;rintro e w2 ⟨rfl,hb2⟩;(have hX2:Qv w2 w.heap.size 36 #[.string ad,.string cl,.string co,.int .i64 si,.int .i64 lo,.int .i64 hi] (0,0):=(by first | exact Qv.keep hX2 hb2 | exact Qv.keep (World.alloc_heap_new _ _) hb2);have x0:=hX2.cell 0;have x1:=hX2.cell 1;have x2:=hX2.cell 2;have x3:=hX2.cell 3;have x4:=hX2.cell 4;have x5:=hX2.cell 5)) | (go_at_call 122;refine (C3.out _).mono ?_;rintro e w2 ⟨rfl,hb2⟩;(have hX2:Qv w2 w.heap.size 36 #[.string ad,.string cl,.string co,.int .i64 si,.int .i64 lo,.int .i64 hi] (0,0):=(by first | exact Qv.keep hX2 hb2 | exact Qv.keep (World.alloc_heap_new _ _) hb2);have x0:=hX2.cell 0;have x1:=hX2.cell 1;have x2:=hX2.cell 2;have x3:=hX2.cell 3;have x4:=hX2.cell 4;have x5:=hX2.cell 5)) | (go_at_call 124;refine (C4.out _).mono ?_;rintro e w2 ⟨rfl,hb2⟩;(have hX2:Qv w2 w.heap.size 36 #[.string ad,.string cl,.string co,.int .i64 si,.int .i64 lo,.int .i64 hi] (0,0):=(by first | exact Qv.keep hX2 hb2 | exact Qv.keep (World.alloc_heap_new _ _) hb2);have x0:=hX2.cell 0;have x1:=hX2.cell 1;have x2:=hX2.cell 2;have x3:=hX2.cell 3;have x4:=hX2.cell 4;have x5:=hX2.cell 5)));go_ret;exact⟨rfl,Qz⟩)
 cases b3
 ·obtain rfl:V=false:=by rw[hV2];rfl
  clear hV2
  (go_enter Tryz.func96,Tryz.ntmps96;go_wp2_with (first | (go_at_call 160;refine (C1.out _ (Env.keep HE.out Qz)).mono ?_;rintro e w2 ⟨rfl,hb2⟩;(have hX2:Qv w2 w.heap.size 36 #[.string ad,.string cl,.string co,.int .i64 si,.int .i64 lo,.int .i64 hi] (0,0):=(by first | exact Qv.keep hX2 hb2 | exact Qv.keep (World.alloc_heap_new _ _) hb2);have x0:=hX2.cell 0;have x1:=hX2.cell 1;have x2:=hX2.cell 2;have x3:=hX2.cell 3;have x4:=hX2.cell 4;have x5:=hX2.cell 5)) | (go_at_call 121;refine (C2.out _ (Env.keep HE.out Qz)).mono ?_;rintro e w2 ⟨rfl,hb2⟩;(have hX2:Qv w2 w.heap.size 36 #[.string ad,.string cl,.string co,.int .i64 si,.int .i64 lo,.int .i64 hi] (0,0):=(by first | exact Qv.keep hX2 hb2 | exact Qv.keep (World.alloc_heap_new _ _) hb2);have x0:=hX2.cell 0;have x1:=hX2.cell 1;have x2:=hX2.cell 2;have x3:=hX2.cell 3;have x4:=hX2.cell 4;have x5:=hX2.cell 5)) | (go_at_call 122;refine (C3.out _).mono ?_;rintro e w2 ⟨rfl,hb2⟩;(have hX2:Qv w2 w.heap.size 36 #[.string ad,.string cl,.string co,.int .i64 si,.int .i64 lo,.int .i64 hi] (0,0):=(by first | exact Qv.keep hX2 hb2 | exact Qv.keep (World.alloc_heap_new _ _) hb2);have x0:=hX2.cell 0;have x1:=hX2.cell 1;have x2:=hX2.cell 2;have x3:=hX2.cell 3;have x4:=hX2.cell 4;have x5:=hX2.cell 5)) | (go_at_call 124;refine (C4.out _).mono ?_;rintro e w2 ⟨rfl,hb2⟩;(have hX2:Qv w2 w.heap.size 36 #[.string ad,.string cl,.string co,.int .i64 si,.int .i64 lo,.int .i64 hi] (0,0):=(by first | exact Qv.keep hX2 hb2 | exact Qv.keep (World.alloc_heap_new _ _) hb2);have x0:=hX2.cell 0;have x1:=hX2.cell 1;have x2:=hX2.cell 2;have x3:=hX2.cell 3;have x4:=hX2.cell 4;have x5:=hX2.cell 5)));go_ret;exact⟨rfl,Qz⟩)
 cases b4
 ·obtain rfl:V=false:=by rw[hV2];rfl
  clear hV2
  (go_enter Tryz.func96,Tryz.ntmps96;go_wp2_with (first | (go_at_call 160;refine (C1.out _ (Env.keep HE.out Qz)).mono ?_;rintro e w2 ⟨rfl,hb2⟩;(have hX2:Qv w2 w.heap.size 36 #[.string ad,.string cl,.string co,.int .i64 si,.int .i64 lo,.int .i64 hi] (0,0):=(by first | exact Qv.keep hX2 hb2 | exact Qv.keep (World.alloc_heap_new _ _) hb2);have x0:=hX2.cell 0;have x1:=hX2.cell 1;have x2:=hX2.cell 2;have x3:=hX2.cell 3;have x4:=hX2.cell 4;have x5:=hX2.cell 5)) | (go_at_call 121;refine (C2.out _ (Env.keep HE.out Qz)).mono ?_;rintro e w2 ⟨rfl,hb2⟩;(have hX2:Qv w2 w.heap.size 36 #[.string ad,.string cl,.string co,.int .i64 si,.int .i64 lo,.int .i64 hi] (0,0):=(by first | exact Qv.keep hX2 hb2 | exact Qv.keep (World.alloc_heap_new _ _) hb2);have x0:=hX2.cell 0;have x1:=hX2.cell 1;have x2:=hX2.cell 2;have x3:=hX2.cell 3;have x4:=hX2.cell 4;have x5:=hX2.cell 5)) | (go_at_call 122;refine (C3.out _).mono ?_;rintro e w2 ⟨rfl,hb2⟩;(have hX2:Qv w2 w.heap.size 36 #[.string ad,.string cl,.string co,.int .i64 si,.int .i64 lo,.int .i64 hi] (0,0):=(by first | exact Qv.keep hX2 hb2 | exact Qv.keep (World.alloc_heap_new _ _) hb2);have x0:=hX2.cell 0;have x1:=hX2.cell 1;have x2:=hX2.cell 2;have x3:=hX2.cell 3;have x4:=hX2.cell 4;have x5:=hX2.cell 5)) | (go_at_call 124;refine (C4.out _).mono ?_;rintro e w2 ⟨rfl,hb2⟩;(have hX2:Qv w2 w.heap.size 36 #[.string ad,.string cl,.string co,.int .i64 si,.int .i64 lo,.int .i64 hi] (0,0):=(by first | exact Qv.keep hX2 hb2 | exact Qv.keep (World.alloc_heap_new _ _) hb2);have x0:=hX2.cell 0;have x1:=hX2.cell 1;have x2:=hX2.cell 2;have x3:=hX2.cell 3;have x4:=hX2.cell 4;have x5:=hX2.cell 5)));go_ret;exact⟨rfl,Qz⟩)
 by_cases t3:0≤lo
 rotate_left
 ·obtain rfl:V=false:=by rw[hV2];simp[t3]
  have d3:decide (0≤lo)=false:=decide_eq_false t3
  clear hV2
  (go_enter Tryz.func96,Tryz.ntmps96;go_wp2_with (first | (go_at_call 160;refine (C1.out _ (Env.keep HE.out Qz)).mono ?_;rintro e w2 ⟨rfl,hb2⟩;(have hX2:Qv w2 w.heap.size 36 #[.string ad,.string cl,.string co,.int .i64 si,.int .i64 lo,.int .i64 hi] (0,0):=(by first | exact Qv.keep hX2 hb2 | exact Qv.keep (World.alloc_heap_new _ _) hb2);have x0:=hX2.cell 0;have x1:=hX2.cell 1;have x2:=hX2.cell 2;have x3:=hX2.cell 3;have x4:=hX2.cell 4;have x5:=hX2.cell 5)) | (go_at_call 121;refine (C2.out _ (Env.keep HE.out Qz)).mono ?_;rintro e w2 ⟨rfl,hb2⟩;(have hX2:Qv w2 w.heap.size 36 #[.string ad,.string cl,.string co,.int .i64 si,.int .i64 lo,.int .i64 hi] (0,0):=(by first | exact Qv.keep hX2 hb2 | exact Qv.keep (World.alloc_heap_new _ _) hb2);have x0:=hX2.cell 0;have x1:=hX2.cell 1;have x2:=hX2.cell 2;have x3:=hX2.cell 3;have x4:=hX2.cell 4;have x5:=hX2.cell 5)) | (go_at_call 122;refine (C3.out _).mono ?_;rintro e w2 ⟨rfl,hb2⟩;(have hX2:Qv w2 w.heap.size 36 #[.string ad,.string cl,.string co,.int .i64 si,.int .i64 lo,.int .i64 hi] (0,0):=(by first | exact Qv.keep hX2 hb2 | exact Qv.keep (World.alloc_heap_new _ _) hb2);have x0:=hX2.cell 0;have x1:=hX2.cell 1;have x2:=hX2.cell 2;have x3:=hX2.cell 3;have x4:=hX2.cell 4;have x5:=hX2.cell 5)) | (go_at_call 124;refine (C4.out _).mono ?_;rintro e w2 ⟨rfl,hb2⟩;(have hX2:Qv w2 w.heap.size 36 #[.string ad,.string cl,.string co,.int .i64 si,.int .i64 lo,.int .i64 hi] (0,0):=(by first | exact Qv.keep hX2 hb2 | exact Qv.keep (World.alloc_heap_new _ _) hb2);have x0:=hX2.cell 0;have x1:=hX2.cell 1;have x2:=hX2.cell 2;have x3:=hX2.cell 3;have x4:=hX2.cell 4;have x5:=hX2.cell 5)));go_ret;exact⟨rfl,Qz⟩)
 have d3:decide (0≤lo)=true:=decide_eq_true t3
 by_cases t4:lo≤hi
 rotate_left
 ·obtain rfl:V=false:=by rw[hV2];simp[t4]
  have d4:decide (lo≤hi)=false:=decide_eq_false t4
  clear hV2
  (go_enter Tryz.func96,Tryz.ntmps96;go_wp2_with (first | (go_at_call 160;refine (C1.out _ (Env.keep HE.out Qz)).mono ?_;rintro e w2 ⟨rfl,hb2⟩;(have hX2:Qv w2 w.heap.size 36 #[.string ad,.string cl,.string co,.int .i64 si,.int .i64 lo,.int .i64 hi] (0,0):=(by first | exact Qv.keep hX2 hb2 | exact Qv.keep (World.alloc_heap_new _ _) hb2);have x0:=hX2.cell 0;have x1:=hX2.cell 1;have x2:=hX2.cell 2;have x3:=hX2.cell 3;have x4:=hX2.cell 4;have x5:=hX2.cell 5)) | (go_at_call 121;refine (C2.out _ (Env.keep HE.out Qz)).mono ?_;rintro e w2 ⟨rfl,hb2⟩;(have hX2:Qv w2 w.heap.size 36 #[.string ad,.string cl,.string co,.int .i64 si,.int .i64 lo,.int .i64 hi] (0,0):=(by first | exact Qv.keep hX2 hb2 | exact Qv.keep (World.alloc_heap_new _ _) hb2);have x0:=hX2.cell 0;have x1:=hX2.cell 1;have x2:=hX2.cell 2;have x3:=hX2.cell 3;have x4:=hX2.cell 4;have x5:=hX2.cell 5)) | (go_at_call 122;refine (C3.out _).mono ?_;rintro e w2 ⟨rfl,hb2⟩;(have hX2:Qv w2 w.heap.size 36 #[.string ad,.string cl,.string co,.int .i64 si,.int .i64 lo,.int .i64 hi] (0,0):=(by first | exact Qv.keep hX2 hb2 | exact Qv.keep (World.alloc_heap_new _ _) hb2);have x0:=hX2.cell 0;have x1:=hX2.cell 1;have x2:=hX2.cell 2;have x3:=hX2.cell 3;have x4:=hX2.cell 4;have x5:=hX2.cell 5)) | (go_at_call 124;refine (C4.out _).mono ?_;rintro e w2 ⟨rfl,hb2⟩;(have hX2:Qv w2 w.heap.size 36 #[.string ad,.string cl,.string co,.int .i64 si,.int .i64 lo,.int .i64 hi] (0,0):=(by first | exact Qv.keep hX2 hb2 | exact Qv.keep (World.alloc_heap_new _ _) hb2);have x0:=hX2.cell 0;have x1:=hX2.cell 1;have x2:=hX2.cell 2;have x3:=hX2.cell 3;have x4:=hX2.cell 4;have x5:=hX2.cell 5)));go_ret;exact⟨rfl,Qz⟩)
 have d4:decide (lo≤hi)=true:=decide_eq_true t4
 obtain rfl:V=decide (hi≤1099511627776):=by rw[hV2];simp[t3,t4]
 clear hV2
 (go_enter Tryz.func96,Tryz.ntmps96;go_wp2_with (first | (go_at_call 160;refine (C1.out _ (Env.keep HE.out Qz)).mono ?_;rintro e w2 ⟨rfl,hb2⟩;(have hX2:Qv w2 w.heap.size 36 #[.string ad,.string cl,.string co,.int .i64 si,.int .i64 lo,.int .i64 hi] (0,0):=(by first | exact Qv.keep hX2 hb2 | exact Qv.keep (World.alloc_heap_new _ _) hb2);have x0:=hX2.cell 0;have x1:=hX2.cell 1;have x2:=hX2.cell 2;have x3:=hX2.cell 3;have x4:=hX2.cell 4;have x5:=hX2.cell 5)) | (go_at_call 121;refine (C2.out _ (Env.keep HE.out Qz)).mono ?_;rintro e w2 ⟨rfl,hb2⟩;(have hX2:Qv w2 w.heap.size 36 #[.string ad,.string cl,.string co,.int .i64 si,.int .i64 lo,.int .i64 hi] (0,0):=(by first | exact Qv.keep hX2 hb2 | exact Qv.keep (World.alloc_heap_new _ _) hb2);have x0:=hX2.cell 0;have x1:=hX2.cell 1;have x2:=hX2.cell 2;have x3:=hX2.cell 3;have x4:=hX2.cell 4;have x5:=hX2.cell 5)) | (go_at_call 122;refine (C3.out _).mono ?_;rintro e w2 ⟨rfl,hb2⟩;(have hX2:Qv w2 w.heap.size 36 #[.string ad,.string cl,.string co,.int .i64 si,.int .i64 lo,.int .i64 hi] (0,0):=(by first | exact Qv.keep hX2 hb2 | exact Qv.keep (World.alloc_heap_new _ _) hb2);have x0:=hX2.cell 0;have x1:=hX2.cell 1;have x2:=hX2.cell 2;have x3:=hX2.cell 3;have x4:=hX2.cell 4;have x5:=hX2.cell 5)) | (go_at_call 124;refine (C4.out _).mono ?_;rintro e w2 ⟨rfl,hb2⟩;(have hX2:Qv w2 w.heap.size 36 #[.string ad,.string cl,.string co,.int .i64 si,.int .i64 lo,.int .i64 hi] (0,0):=(by first | exact Qv.keep hX2 hb2 | exact Qv.keep (World.alloc_heap_new _ _) hb2);have x0:=hX2.cell 0;have x1:=hX2.cell 1;have x2:=hX2.cell 2;have x3:=hX2.cell 3;have x4:=hX2.cell 4;have x5:=hX2.cell 5)));go_ret;exact⟨rfl,Qz⟩)
end Go.Proofs.YticlbkficolocaaGreatDoor
