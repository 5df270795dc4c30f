/- Plain: the text of a signed address is read back, by the package and by the specification. -/
import Derived.Test.YtlkbkclnbppigaaGreatDoorIZ26
import Derived.Test.YtlkbkclnbppigaaGreatDoorIZ25
set_option maxHeartbeats 8000000
namespace Go.Proofs.YtlkbkclnbppigaaGreatDoor
open Go.RowKit Go.Sort
set_option linter.unusedVariables false
set_option linter.unusedSimpArgs false
set_option maxRecDepth 100000
def hexD (n:Nat):UInt8:=if n<10 then UInt8.ofNat (48+n) else UInt8.ofNat (87+n)
def hexL (s:List Nat):List UInt8:=s.flatMap fun n=>[hexD (n / 16),hexD (n % 16)]
def hexB (s:List Nat):ByteArray:=⟨(hexL s).toArray⟩
def hexV (b:UInt8):Nat:=if 48≤b.toNat∧b.toNat≤57 then b.toNat-48 else if 97≤b.toNat∧b.toNat≤102 then b.toNat-87 else 16
def unhex:List UInt8→Option (List Nat)
 | []=>some []
 | [_]=>none
 | a :: b :: r=>if hexV a<16∧hexV b<16 then (unhex r).map ((16*hexV a+hexV b) :: ·) else none
def fieldsT (t:TokV):List ByteArray:=itoaB t.cust :: itoaB t.ser :: t.id :: (t.conds.map textC++[hexB t.sl])
def textT (t:TokV):ByteArray:=sepT 59 (fieldsT t)
theorem hexD_small:∀ n,n<16→hexV (hexD n)=n∧hexD n≠59:=by decide
theorem hexV_back:∀ b:UInt8,hexV b<16→hexD (hexV b)=b:=by
 intro b h
 have hb:b=UInt8.ofNat b.toNat:=by simp
 have hlt:=b.toNat_lt
 have all:∀ n:Nat,n<256→hexV (UInt8.ofNat n)<16→hexD (hexV (UInt8.ofNat n))=UInt8.ofNat n:=by decide +kernel
 rw[hb]at h ⊢
 exact all _ hlt h
theorem unhex_hex:∀ s:List Nat,(∀ x∈s,x<256)→unhex (hexL s)=some s
 | [],_=>rfl
 | n :: s,h=>by
  have hn:n<256:=h n (by simp)
  have e:hexL (n :: s)=hexD (n / 16) :: hexD (n % 16) :: hexL s:=rfl
  have h1:=(hexD_small (n / 16) (by omega)).1
  have h2:=(hexD_small (n % 16) (by omega)).1
  rw[e,unhex,h1,h2,if_pos (by omega),unhex_hex s (fun x hx=>h x (by simp[hx]))]
  show some ((16*(n / 16)+n % 16) :: s)=_
  rw[show 16*(n / 16)+n % 16=n by omega]
theorem hex_unhex:∀ (l:List UInt8) (s:List Nat),unhex l=some s→hexL s=l∧(∀ x∈s,x<256)∧l.length=2*s.length
 | [],s,h=>by
  injection h with h
  subst h
  exact⟨rfl,by simp,rfl⟩
 | [_],s,h=>by simp[unhex]at h
 | a :: b :: r,s,h=>by
  rw[unhex]at h
  split at h
  ·rename_i hv
   cases hu:unhex r with
   | none=>rw[hu]at h;simp at h
   | some u =>
    rw[hu]at h
    injection h with h
    subst h
    obtain⟨h1,h2,h3⟩:=hex_unhex r u hu
    refine⟨?_,?_,by simp[h3];omega⟩
    ·show hexD ((16*hexV a+hexV b) / 16) :: hexD ((16*hexV a+hexV b) % 16) :: hexL u=_
     rw[show (16*hexV a+hexV b) / 16=hexV a by omega,show (16*hexV a+hexV b) % 16=hexV b by omega,hexV_back a hv.1,hexV_back b hv.2,h1]
    ·intro x hx
     rcases List.mem_cons.1 hx with rfl | hx
     ·omega
     ·exact h2 x hx
  ·cases h
theorem letter_semi (b:UInt8) (h:letterB b=true):b≠59:=by rintro rfl;revert h;decide
theorem num_semi (n:Int) (h0:0≤n):59 ∉ (itoaB n).data.toList:=by
 rw[itoa_dec n h0]
 intro hm
 exact absurd (dec_digit n.toNat _ hm) (by decide)
theorem name_semi {s:ByteArray} (h:isNameB s=true):59 ∉ s.data.toList:=fun hm=>letter_semi _ (word_letters (name_word h) _ hm) rfl
theorem country_semi {s:ByteArray} (h:countryB s=true):59 ∉ s.data.toList:=by
 unfold countryB at h
 simp only[Bool.and_eq_true,decide_eq_true_eq,List.all_eq_true]at h
 exact fun hm=>absurd (h.2 _ hm) (by decide)
theorem pat_semi {p:ByteArray} (h:patOk p=true):59 ∉ p.data.toList:=by
 by_cases h0:p.size=0
 ·have:p.data.toList=[]:=List.eq_nil_of_length_eq_zero (by rw[←Lib.size_eq];exact h0)
  rw[this];simp
 ·obtain⟨x,hx⟩:=patOk_some h h0
  rw[←str_compile hx]
  have hb:=patS_bytes (compile_fit hx)
  intro hm
  rcases hb _ hm with h | h | h
  ·exact letter_semi _ h rfl
  ·exact absurd h (by decide)
  ·exact absurd h (by decide)
theorem join_in (d:UInt8) (l:List (List UInt8)) (b:UInt8) (hb:b∈Lib.join l [d]):b=d∨∃ x∈l,b∈x:=by
 cases l with
 | nil=>rw[Lib.join_nil]at hb;simp at hb
 | cons x l =>
  rw[Lib.join_cons]at hb
  rcases List.mem_append.1 hb with hb | hb
  ·exact .inr ⟨x,by simp,hb⟩
  ·have:∀ l:List (List UInt8),b∈Lib.joinTail [d] l→b=d∨∃ x∈l,b∈x:=by
    intro l
    induction l with
    | nil=>intro h;simp[Lib.joinTail]at h
    | cons y l ih =>
     intro h
     have e:Lib.joinTail [d] (y :: l)=d :: (y++Lib.joinTail [d] l):=by simp[Lib.joinTail]
     rw[e]at h
     rcases List.mem_cons.1 h with h | h
     ·exact .inl h
     ·rcases List.mem_append.1 h with h | h
      ·exact .inr ⟨y,by simp,h⟩
      ·rcases ih h with h | ⟨x,hx,h⟩
       ·exact .inl h
       ·exact .inr ⟨x,by simp[hx],h⟩
   rcases this l hb with h | ⟨x,hx,h⟩
   ·exact .inl h
   ·exact .inr ⟨x,by simp[hx],h⟩
theorem cond_semi {c:CondV} (h:validC c=true):59 ∉ (textC c).data.toList:=by
 have hc:=(valid_iff c).1 h
 have a0:=hc.fr0;have a1:=hc.to0;have a2:=hc.us0
 have hsi:∀ x∈c.si.map itoaB,59 ∉ x.data.toList:=by
  intro x hx
  obtain⟨n,hn,rfl⟩:=List.mem_map.1 hx
  have:=hc.si n hn
  unfold siteB at this
  simp only[decide_eq_true_eq]at this
  exact num_semi n this.1
 intro hm
 rcases join_in 32 _ _ hm with h | ⟨x,hx,hb⟩
 ·exact absurd h (by decide)
 obtain⟨z,hz,rfl⟩:=List.mem_map.1 hx
 unfold fieldsC at hz
 simp only[List.mem_cons,List.not_mem_nil,or_false]at hz
 rcases hz with rfl | rfl | rfl | rfl | rfl | rfl | rfl
 ·exact num_semi _ a0 hb
 ·exact num_semi _ a1 hb
 ·unfold orT at hb
  split at hb
  ·simp at hb
  ·exact pat_semi hc.pat hb
 ·exact join_not _ 59 (by decide) (by decide) (fun x hx=>name_semi (hc.cl x hx)) hb
 ·exact join_not _ 59 (by decide) (by decide) (fun x hx=>country_semi (hc.co x hx)) hb
 ·exact join_not _ 59 (by decide) (by decide) hsi hb
 ·exact num_semi _ a2 hb
structure TokOk (t:TokV):Prop where
 c0:1≤t.cust
 c1:t.cust≤1073741824
 s0:1≤t.ser
 s1:t.ser≤1073741824
 id:isNameB t.id=true
 n0:1≤t.conds.length
 n1:t.conds.length≤16
 all:∀ c∈t.conds,validC c=true
theorem validT_iff (t:TokV):validT t=true↔TokOk t:=by
 unfold validT idOk partyB
 simp only[Bool.and_eq_true,decide_eq_true_eq,List.all_eq_true]
 constructor
 ·rintro⟨⟨⟨⟨⟨a,b⟩,c,d⟩,e⟩,f,g⟩,h⟩
  exact⟨a,b,c,d,e,f,g,h⟩
 ·rintro⟨a,b,c,d,e,f,g,h⟩
  exact⟨⟨⟨⟨⟨a,b⟩,c,d⟩,e⟩,f,g⟩,h⟩
theorem fieldsT_not {t:TokV} (ht:TokOk t) (hs:SealOk t.sl):∀ z∈fieldsT t,59 ∉ z.data.toList:=by
 have a0:=ht.c0;have a1:=ht.s0
 intro z hz
 unfold fieldsT at hz
 simp only[List.mem_cons,List.mem_append,List.not_mem_nil,or_false]at hz
 rcases hz with rfl | rfl | rfl | hz | rfl
 ·exact num_semi _ (by omega)
 ·exact num_semi _ (by omega)
 ·exact name_semi ht.id
 ·obtain⟨c,hc,rfl⟩:=List.mem_map.1 hz
  exact cond_semi (ht.all c hc)
 ·intro hm
  obtain⟨n,hn,hb⟩:=List.mem_flatMap.1 (show (59:UInt8)∈hexL t.sl from hm)
  have hlt:=hs.lt n hn
  simp only[List.mem_cons,List.not_mem_nil,or_false]at hb
  rcases hb with hb | hb
  ·exact (hexD_small (n / 16) (by omega)).2 hb.symm
  ·exact (hexD_small (n % 16) (by omega)).2 hb.symm
theorem split_textT {t:TokV} (ht:TokOk t) (hs:SealOk t.sl):splitB 59 (textT t)=fieldsT t:=split_joinC 59 (fieldsT t) (by simp[fieldsT]) (fieldsT_not ht hs)
def tokF (num:ByteArray→Int) (rd:ByteArray→Option CondV) (f:List ByteArray):TokV :=
 ⟨num (f.getD 0 tilde),num (f.getD 1 tilde),f.getD 2 tilde,((f.drop 3).dropLast).map (fun x=>(rd x).getD zeroC),(unhex (f.getLastD tilde).data.toList).getD zeroS⟩
def okF (rd:ByteArray→Option CondV) (f:List ByteArray):Bool:=decide (5≤f.length∧f.length≤20)&&((f.drop 3).dropLast).all (fun x=>(rd x).isSome)&&decide ((f.getLastD tilde).size=32)&&(unhex (f.getLastD tilde).data.toList).isSome
def numOk (s:ByteArray):Bool:=!atoiBad s&&decide (itoaB (atoiN s)=s)
def readT (s:ByteArray):Option TokV :=
 if okF readC (splitB 59 s)&&numOk ((splitB 59 s).getD 0 tilde)&&numOk ((splitB 59 s).getD 1 tilde)&&validT (tokF atoiN readC (splitB 59 s)) then some (tokF atoiN readC (splitB 59 s)) else none
theorem join_split1 (c:UInt8):∀ l:List UInt8,Lib.join (splitL c l) [c]=l
 | []=>by rw[splitL,Lib.join_cons];simp[Lib.joinTail]
 | b :: r=>by
  have ih:=join_split1 c r
  have hne:=splitL_ne c r
  rw[splitL]
  split
  ·rename_i e
   subst e
   cases hp:splitL b r with
   | nil=>exact absurd hp hne
   | cons p ps =>
    rw[hp,Lib.join_cons]at ih
    rw[Lib.join_cons]
    have e2:Lib.joinTail [b] (p :: ps)=b :: (p++Lib.joinTail [b] ps):=by simp[Lib.joinTail]
    rw[e2,ih]
    rfl
  ·cases hp:splitL c r with
   | nil=>exact absurd hp hne
   | cons p ps =>
    rw[hp,Lib.join_cons]at ih
    rw[Lib.join_cons]
    show b :: (p++_)=_
    rw[ih]
theorem sep_split (c:UInt8) (s:ByteArray):sepT c (splitB c s)=s:=by
 unfold sepT splitB
 rw[List.map_map,show (fun x:ByteArray=>x.data.toList) ∘ (fun l:List UInt8=>(⟨l.toArray⟩:ByteArray))=id from rfl,List.map_id,join_split1]
theorem hexB_size (s:List Nat) (h:s.length=16):(hexB s).size=32:=by
 have:∀ s:List Nat,(hexL s).length=2*s.length:=by
  intro s
  induction s with
  | nil=>rfl
  | cons n s ih=>show (hexD (n / 16) :: hexD (n % 16) :: hexL s).length=_;simp[ih];omega
 rw[Lib.size_eq]
 show (hexL s).length=32
 rw[this,h]
theorem last_snoc {α:Type} (l:List α) (z d:α):(l++[z]).getLastD d=z:=by simp[List.getLastD_eq_getLast?]
theorem okF_back {t:TokV} (ht:TokOk t) (hs:SealOk t.sl) (rd:ByteArray→Option CondV) (hr:∀ c,validC c=true→rd (textC c)=some c):okF rd (fieldsT t)=true:=by
 have n0:=ht.n0;have n1:=ht.n1
 have e3:(fieldsT t).drop 3=t.conds.map textC++[hexB t.sl]:=rfl
 have e4:(fieldsT t).getLastD tilde=hexB t.sl:=last_snoc (itoaB t.cust :: itoaB t.ser :: t.id :: t.conds.map textC) _ _
 have el:(fieldsT t).length=t.conds.length+4:=by unfold fieldsT;simp
 unfold okF
 rw[e3,e4,el,List.dropLast_concat,hexB_size _ hs.len,show (hexB t.sl).data.toList=hexL t.sl from rfl,unhex_hex _ hs.lt]
 have ha:(t.conds.map textC).all (fun x=>(rd x).isSome)=true:=by
  rw[List.all_eq_true]
  intro x hx
  obtain⟨c,hc,rfl⟩:=List.mem_map.1 hx
  rw[hr c (ht.all c hc)];rfl
 rw[ha,decide_eq_true (show 5≤t.conds.length+4∧t.conds.length+4≤20 by omega)]
 rfl
theorem tokF_back {t:TokV} (ht:TokOk t) (hs:SealOk t.sl) (num:ByteArray→Int) (rd:ByteArray→Option CondV) (hn:∀ n:Int,1≤n→n≤1073741824→num (itoaB n)=n) (hr:∀ c,validC c=true→rd (textC c)=some c):tokF num rd (fieldsT t)=t:=by
 have e3:(fieldsT t).drop 3=t.conds.map textC++[hexB t.sl]:=rfl
 have e4:(fieldsT t).getLastD tilde=hexB t.sl:=last_snoc (itoaB t.cust :: itoaB t.ser :: t.id :: t.conds.map textC) _ _
 have e5:(t.conds.map textC).map (fun x=>(rd x).getD zeroC)=t.conds:=by
  rw[List.map_map]
  conv=>rhs;rw[←List.map_id t.conds]
  exact List.map_congr_left fun c hc=>by show (rd (textC c)).getD zeroC=c;rw[hr c (ht.all c hc)];rfl
 unfold tokF
 rw[e3,e4,List.dropLast_concat,show (hexB t.sl).data.toList=hexL t.sl from rfl,unhex_hex _ hs.lt,e5]
 show (⟨num (itoaB t.cust),num (itoaB t.ser),t.id,t.conds,t.sl⟩:TokV)=t
 rw[hn _ ht.c0 ht.c1,hn _ ht.s0 ht.s1]
theorem numOk_itoa {n:Int} (h0:0≤n) (h1:n≤1099511627777):numOk (itoaB n)=true:=by
 unfold numOk
 rw[(atoiN_itoa n h0 h1).1,(atoiN_itoa n h0 h1).2]
 simp
theorem readT_text {t:TokV} (h:validT t=true) (hs:SealOk t.sl):readT (textT t)=some t:=by
 have ht:=(validT_iff t).1 h
 have a0:=ht.c0;have a1:=ht.c1;have b0:=ht.s0;have b1:=ht.s1
 unfold readT
 rw[split_textT ht hs,okF_back ht hs readC (fun c hc=>readC_text hc),tokF_back ht hs atoiN readC (fun n h0 h1=>(atoiN_itoa n (by omega) (by omega)).1) (fun c hc=>readC_text hc),h]
 show (if true&&numOk (itoaB t.cust)&&numOk (itoaB t.ser)&&true then some t else none)=some t
 rw[numOk_itoa (by omega) (by omega),numOk_itoa (by omega) (by omega)]
 rfl
theorem unhex_ok {l:List UInt8} (h:l.length=32) (hu:(unhex l).isSome=true):SealOk ((unhex l).getD zeroS)∧hexL ((unhex l).getD zeroS)=l:=by
 obtain⟨s,hs⟩:=Option.isSome_iff_exists.1 hu
 obtain⟨h1,h2,h3⟩:=hex_unhex l s hs
 rw[hs]
 exact⟨⟨by show s.length=16;omega,h2⟩,h1⟩
theorem fields_back {f:List ByteArray} (num:ByteArray→Int) (rd:ByteArray→Option CondV) (ho:okF rd f=true) (h0:itoaB (num (f.getD 0 tilde))=f.getD 0 tilde) (h1:itoaB (num (f.getD 1 tilde))=f.getD 1 tilde) (hr:∀ s c,rd s=some c→textC c=s) :
  fieldsT (tokF num rd f)=f∧SealOk (tokF num rd f).sl:=by
 unfold okF at ho
 simp only[Bool.and_eq_true,decide_eq_true_eq,List.all_eq_true]at ho
 obtain⟨⟨⟨hl,ha⟩,hz⟩,hu⟩:=ho
 obtain⟨x0,x1,x2,r,rfl⟩:∃ x0 x1 x2 r,f=x0 :: x1 :: x2 :: r:=by
  match f,hl.1 with
  | x0 :: x1 :: x2 :: r,_=>exact⟨x0,x1,x2,r,rfl⟩
 obtain⟨m,z,rfl⟩:∃ m z,r=m++[z]:=by
  have hne:r ≠ []:=by intro e;subst e;simp at hl
  exact⟨r.dropLast,r.getLast hne,(List.dropLast_concat_getLast hne).symm⟩
 have e3:(x0 :: x1 :: x2 :: (m++[z])).drop 3=m++[z]:=rfl
 have e4:(x0 :: x1 :: x2 :: (m++[z])).getLastD tilde=z:=last_snoc (x0 :: x1 :: x2 :: m) _ _
 rw[e3,List.dropLast_concat]at ha
 rw[e4]at hz hu
 obtain⟨hs,hx⟩:=unhex_ok (l:=z.data.toList) (by rw[←Lib.size_eq];exact hz) hu
 have em:(m.map (fun x=>(rd x).getD zeroC)).map textC=m:=by
  rw[List.map_map]
  conv=>rhs;rw[←List.map_id m]
  refine List.map_congr_left fun x hxm=>?_
  obtain⟨c,hc⟩:=Option.isSome_iff_exists.1 (ha x hxm)
  show textC ((rd x).getD zeroC)=x
  rw[hc]
  exact hr x c hc
 have et:tokF num rd (x0 :: x1 :: x2 :: (m++[z]))=⟨num x0,num x1,x2,m.map (fun x=>(rd x).getD zeroC),(unhex z.data.toList).getD zeroS⟩:=by
  unfold tokF
  rw[e3,e4,List.dropLast_concat]
  rfl
 rw[et]
 refine⟨?_,hs⟩
 unfold fieldsT
 show itoaB (num x0) :: itoaB (num x1) :: x2 :: ((m.map (fun x=>(rd x).getD zeroC)).map textC++[hexB ((unhex z.data.toList).getD zeroS)])=_
 rw[em,show itoaB (num x0)=x0 from h0,show itoaB (num x1)=x1 from h1,show hexB ((unhex z.data.toList).getD zeroS)=z from bytes_ext hx]
theorem readT_some {s:ByteArray} {t:TokV} (h:readT s=some t):validT t=true∧SealOk t.sl∧textT t=s:=by
 unfold readT at h
 split at h
 ·rename_i hc
  injection h with h
  subst h
  simp only[Bool.and_eq_true]at hc
  obtain⟨⟨⟨ho,n0⟩,n1⟩,hv⟩:=hc
  unfold numOk at n0 n1
  simp only[Bool.and_eq_true,decide_eq_true_eq]at n0 n1
  obtain⟨e,hs⟩:=fields_back atoiN readC ho n0.2 n1.2 (fun s c hc=>(readC_some hc).2)
  refine⟨hv,hs,?_⟩
  unfold textT
  rw[e,sep_split]
 ·cases h
attribute [local go_sem] Oper.semAt_some
theorem ints_at {xs:List Int} {k:Nat} {u:Value} (h:(xs.map (Value.int .i64))[k]? = some u):∃ x,xs[k]? = some x∧u=.int .i64 x:=by
 rw[List.getElem?_map,Option.map_eq_some_iff]at h
 obtain⟨x,hx,rfl⟩:=h
 exact⟨x,hx,rfl⟩
theorem box3' (w:World) (a b c:Obj):(((w.alloc a).alloc b).alloc c).heap[w.heap.size]? = some a∧(((w.alloc a).alloc b).alloc c).heap[w.heap.size+1]? = some b∧(((w.alloc a).alloc b).alloc c).heap[w.heap.size+1+1]? = some c:=by
 obtain⟨h1,h2⟩:=two_box w a b
 refine⟨(Below.heap_alloc _ _ _ (by simp;omega)).trans h1,(Below.heap_alloc _ _ _ (by simp)).trans h2,?_⟩
 have:=World.alloc_heap_new ((w.alloc a).alloc b) c
 simpa using this
theorem Blk.far {w:World} {g:Nat} {t:TypeId} {cs:Array Value} {fr:Nat × Nat} (h:Blk w g t cs fr) (p:Addr) (u:Value) (hp:g≠p.block):Blk (w.setCell p u) g t cs fr:=(Below.heap_setCell w p u g hp).trans h
theorem ABox.set0 {w:World} {g:Nat} {ad ad2 cl co:ByteArray} {si lo hi:Int} (h:ABox w g ad cl co si lo hi):ABox (w.setCell ⟨g,0,none⟩ (.string ad2)) g ad2 cl co si lo hi:=Blk.set_ h 0 (.string ad2)
theorem valid_ok {c:CondV} (h:validC c=true):patOk c.pat=true:=((valid_iff c).1 h).pat
def patM (p q:ByteArray):ByteArray:=(pmeet p q).getD ⟨#[]⟩
def patK (p q:ByteArray):Bool:=(pmeet p q).isSome
def meetK (a b:CondV):Bool:=decide (max a.fr b.fr<min a.till b.till)&&(bothOk a.cl b.cl&&bothOk a.co b.co&&bothOk a.si b.si&&patK a.pat b.pat)
theorem meetC_eq (a b:CondV):meetC a b=if meetK a b=true then ⟨max a.fr b.fr,min a.till b.till,patM a.pat b.pat,bothF a.cl b.cl,bothF a.co b.co,bothF a.si b.si,usesM a.us b.us⟩ else zeroC:=by
 unfold meetC meetO meetK patM patK bothO
 cases hp:pmeet a.pat b.pat with
 | none=>simp
 | some p =>
  cases h1:bothOk a.cl b.cl <;> cases h2:bothOk a.co b.co <;> cases h3:bothOk a.si b.si <;> simp
  by_cases ht:max a.fr b.fr<min a.till b.till
  ·rw[if_pos (by omega),if_pos (by omega)];rfl
  ·rw[if_neg (by omega),if_neg (by omega)];rfl
theorem pat_empty {p:ByteArray} (h:p.size=0):p=⟨#[]⟩:=bytes_ext (List.eq_nil_of_length_eq_zero (by rw[←Lib.size_eq];exact h))
theorem patM_one {p q:ByteArray} (h:p.size=0∨q.size=0):patM p q=(if p.size=0 then q else p)∧patK p q=true:=by
 unfold patM patK pmeet
 by_cases hp:p.size=0
 ·rw[if_pos hp,if_pos hp];exact⟨rfl,rfl⟩
 ·have hq:q.size=0:=by omega
  rw[if_neg hp,if_pos hq,if_neg hp];exact⟨rfl,rfl⟩
theorem patM_two {p q:ByteArray} (hp:patOk p=true) (hq:patOk q=true) (h1:p.size≠0) (h2:q.size≠0):bothV (bothP p q)=.tuple #[.string (patM p q),.bool (patK p q),.int .i64 0]:=by
 unfold patOk at hp hq
 rw[decide_eq_false h1,Bool.false_or]at hp
 rw[decide_eq_false h2,Bool.false_or]at hq
 obtain⟨x,hx⟩:=Option.isSome_iff_exists.1 hp
 obtain⟨y,hy⟩:=Option.isSome_iff_exists.1 hq
 unfold patM patK
 rw[pmeet_two h1 h2 hx hy]
 unfold bothP
 rw[hx,hy]
 show bothV (some (commonP x y))=_
 cases commonP x y <;> rfl
theorem setKeep {w:World} {a p:Addr} {v u:Value} (h:w.cell? a=some v) (hne:p.block≠a.block):(w.setCell p u).cell? a=some v:=(World.cell?_setCell_far w p a u hne).trans h
theorem belowSet {a w:World} {B:Nat} {p:Addr} {u:Value} (h:Below B a w) (hp:B≤p.block):Below B a (w.setCell p u):=h.setCell hp u
theorem CBox.s0 {w:World} {g:Nat} {fr till us:Int} {pat:ByteArray} {A B S:Option Addr} {na ca nb cb ns cs:Nat} (h:CBox w g fr till pat A na ca B nb cb S ns cs us) (fr':Int):CBox (w.setCell ⟨g,0,none⟩ (.int .i64 fr')) g fr' till pat A na ca B nb cb S ns cs us:=Blk.set_ h 0 (.int .i64 fr')
theorem CBox.s1 {w:World} {g:Nat} {fr till us:Int} {pat:ByteArray} {A B S:Option Addr} {na ca nb cb ns cs:Nat} (h:CBox w g fr till pat A na ca B nb cb S ns cs us) (till':Int):CBox (w.setCell ⟨g,1,none⟩ (.int .i64 till')) g fr till' pat A na ca B nb cb S ns cs us:=Blk.set_ h 1 (.int .i64 till')
theorem CBox.s2 {w:World} {g:Nat} {fr till us:Int} {pat:ByteArray} {A B S:Option Addr} {na ca nb cb ns cs:Nat} (h:CBox w g fr till pat A na ca B nb cb S ns cs us) (pat':ByteArray):CBox (w.setCell ⟨g,2,none⟩ (.string pat')) g fr till pat' A na ca B nb cb S ns cs us:=Blk.set_ h 2 (.string pat')
theorem CBox.s3 {w:World} {g:Nat} {fr till us:Int} {pat:ByteArray} {A B S:Option Addr} {na ca nb cb ns cs:Nat} (h:CBox w g fr till pat A na ca B nb cb S ns cs us) (A':Option Addr) (na' ca':Nat):CBox (w.setCell ⟨g,3,none⟩ (.slice A' na' ca')) g fr till pat A' na' ca' B nb cb S ns cs us:=Blk.set_ h 3 (.slice A' na' ca')
theorem CBox.s4 {w:World} {g:Nat} {fr till us:Int} {pat:ByteArray} {A B S:Option Addr} {na ca nb cb ns cs:Nat} (h:CBox w g fr till pat A na ca B nb cb S ns cs us) (B':Option Addr) (nb' cb':Nat):CBox (w.setCell ⟨g,4,none⟩ (.slice B' nb' cb')) g fr till pat A na ca B' nb' cb' S ns cs us:=Blk.set_ h 4 (.slice B' nb' cb')
theorem CBox.s5 {w:World} {g:Nat} {fr till us:Int} {pat:ByteArray} {A B S:Option Addr} {na ca nb cb ns cs:Nat} (h:CBox w g fr till pat A na ca B nb cb S ns cs us) (S':Option Addr) (ns' cs':Nat):CBox (w.setCell ⟨g,5,none⟩ (.slice S' ns' cs')) g fr till pat A na ca B nb cb S' ns' cs' us:=Blk.set_ h 5 (.slice S' ns' cs')
theorem CBox.s6 {w:World} {g:Nat} {fr till us:Int} {pat:ByteArray} {A B S:Option Addr} {na ca nb cb ns cs:Nat} (h:CBox w g fr till pat A na ca B nb cb S ns cs us) (us':Int):CBox (w.setCell ⟨g,6,none⟩ (.int .i64 us')) g fr till pat A na ca B nb cb S ns cs us':=Blk.set_ h 6 (.int .i64 us')
theorem CBox.put {w:World} {g:Nat} {fr till us:Int} {pat:ByteArray} {A B S:Option Addr} {na ca nb cb ns cs:Nat} (h:CBox w g fr till pat A na ca B nb cb S ns cs us) (fr' till':Int) (pat':ByteArray) (A':Option Addr) (na' ca':Nat) (B':Option Addr) (nb' cb':Nat) (S':Option Addr) (ns' cs':Nat) (us':Int) :
  CBox (((((((w.setCell ⟨g,0,none⟩ (.int .i64 fr')).setCell ⟨g,1,none⟩ (.int .i64 till')).setCell ⟨g,2,none⟩ (.string pat')).setCell ⟨g,3,none⟩ (.slice A' na' ca')).setCell ⟨g,4,none⟩ (.slice B' nb' cb')).setCell ⟨g,5,none⟩ (.slice S' ns' cs')).setCell ⟨g,6,none⟩ (.int .i64 us')) g fr' till' pat' A' na' ca' B' nb' cb' S' ns' cs' us' :=
 ((((((h.s0 fr').s1 till').s2 pat').s3 A' na' ca').s4 B' nb' cb').s5 S' ns' cs').s6 us'
theorem keep7 {w:World} {g:Nat} {a:Addr} {v:Value} (h:w.cell? a=some v) (hne:g≠a.block) {v0 v1 v2 v3 v4 v5 v6:Value}:(((((((w.setCell ⟨g,0,none⟩ v0).setCell ⟨g,1,none⟩ v1).setCell ⟨g,2,none⟩ v2).setCell ⟨g,3,none⟩ v3).setCell ⟨g,4,none⟩ v4).setCell ⟨g,5,none⟩ v5).setCell ⟨g,6,none⟩ v6).cell? a=some v :=
 setKeep (setKeep (setKeep (setKeep (setKeep (setKeep (setKeep h hne) hne) hne) hne) hne) hne) hne
theorem belowP7 {a w:World} {B g:Nat} (h:Below B a w) (hg:B≤g) {v0 v1 v2 v3 v4 v5 v6:Value}:Below B a (((((((w.setCell ⟨g,0,none⟩ v0).setCell ⟨g,1,none⟩ v1).setCell ⟨g,2,none⟩ v2).setCell ⟨g,3,none⟩ v3).setCell ⟨g,4,none⟩ v4).setCell ⟨g,5,none⟩ v5).setCell ⟨g,6,none⟩ v6) :=
 belowSet (belowSet (belowSet (belowSet (belowSet (belowSet (belowSet h hg) hg) hg) hg) hg) hg) hg
theorem below_put7 {a w:World} {g:Nat} (h:Below a.heap.size a w) (hg:a.heap.size≤g) (v0 v1 v2 v3 v4 v5 v6:Value):Below a.heap.size a (((((((w.setCell ⟨g,0,none⟩ v0).setCell ⟨g,1,none⟩ v1).setCell ⟨g,2,none⟩ v2).setCell ⟨g,3,none⟩ v3).setCell ⟨g,4,none⟩ v4).setCell ⟨g,5,none⟩ v5).setCell ⟨g,6,none⟩ v6) :=
 (below_put6 h hg v0 v1 v2 v3 v4 v5).setCell (p:=⟨g,6,none⟩) hg v6
theorem infPeriod:(Tryz.prog.info? 57).map (·.size)=some 2:=by kernel_rfl
def Box1 (W:World) (g:Nat) (t:TypeId) (X:Array Value):Prop:=W.heap[g]? = some (.cells X t (0,0))
theorem Box1.keep {W W':World} {g:Nat} {t:TypeId} {X:Array Value} (h:Box1 W g t X) (hb:Below W.heap.size W W'):Box1 W' g t X:=by
 unfold Box1 at *
 have hlt:g<W.heap.size:=by
  rcases Nat.lt_or_ge g W.heap.size with h' | h'
  ·exact h'
  ·rw[Array.getElem?_eq_none h']at h;cases h
 rw[hb.block g hlt];exact h
theorem Box1.period {W:World} {g:Nat} {X:Array Value} (h:Box1 W g 57 X) (hs:X.size=2):(loadVar 57 ⟨g,0,none⟩).run Tryz.prog W=.ok (.agg X) W :=
 run_loadVar_row (P:=Tryz.prog) W g _ 57 X _ _ h Tryz.underlying57 rfl (by rw[hs];exact infPeriod)
theorem Box1.cell {W:World} {g:Nat} {t:TypeId} {X:Array Value} {k:Nat} {v:Value} (h:Box1 W g t X) (hv:X[k]? = some v):W.cell? ⟨g,k,none⟩=some v:=(cell_of_row W g k X t _ h).trans hv
theorem alloc2_box (w:World) (A B:Obj):((w.alloc A).alloc B).heap[w.heap.size]? = some A∧((w.alloc A).alloc B).heap[w.heap.size+1]? = some B:=⟨heap_alloc2_old w A B,heap_alloc2_new w A B⟩
structure CoM where
 c:CondV
 m:CondMem
def CoM.cells (x:CoM):List Value:=[.int .i64 x.c.fr,.int .i64 x.c.till,.string x.c.pat,.slice x.m.A x.c.cl.length x.m.ca,.slice x.m.B x.c.co.length x.m.cb,.slice x.m.S x.c.si.length x.m.cs,.int .i64 x.c.us]
theorem CoM.val (x:CoM):CondMem.val x.c x.m=.agg x.cells.toArray:=rfl
theorem CoM.cells_len (x:CoM):x.cells.length=7:=rfl
structure CondsRead (w:World) (A:Option Addr) (n:Nat) (L:List CoM):Prop where
 len:L.length=n
 rows:Reads w 7 A n (L.flatMap CoM.cells)
 each:∀ x∈L,CondReads w x.c x.m
theorem CondsRead.keep {w w':World} {A:Option Addr} {n:Nat} {L:List CoM} (h:CondsRead w A n L) (hb:Below w.heap.size w w'):CondsRead w' A n L:=⟨h.len,h.rows.keep hb,fun x hx=>(h.each x hx).keep hb⟩
theorem CondsRead.at_ {w:World} {A:Option Addr} {n k:Nat} {L:List CoM} {x:CoM} (h:CondsRead w A n L) (hk:L[k]? = some x) :
  CondReads w x.c x.m∧∃ b o,A=some ⟨b,o,none⟩∧∀ j u,x.cells[j]? = some u→w.cell? ⟨b,o+k*7+j,none⟩=some u :=
 ⟨h.each x (List.mem_of_getElem? hk),Reads.row h.rows (fun a _=>a.cells_len) h.len hk⟩
theorem cond_load (w:World) (b o:Nat) (x:CoM) (hc:∀ j u,x.cells[j]? = some u→w.cell? ⟨b,o+j,none⟩=some u):(loadVar 27 ⟨b,o,none⟩).run Tryz.prog w=.ok (CondMem.val x.c x.m) w:=by
 have hl:(loadCells ⟨b,o,none⟩ 7).run Tryz.prog w=.ok x.cells.toArray w :=
  run_loadCells_list (P:=Tryz.prog) w ⟨b,o,none⟩ x.cells (fun j v hv=>by
   have hadd:(⟨b,o,none⟩:Addr).add j=⟨b,o+j,none⟩:=by unfold Addr.add;split <;> simp_all
   rw[hadd];exact hc j v hv)
 have hi:(Tryz.prog.info? 27).map (·.size)=some 7:=by kernel_rfl
 cases hq:Tryz.prog.info? 27 with
 | none=>rw[hq]at hi;cases hi
 | some i =>
  have hs:i.size=7:=by rw[hq]at hi;simpa using hi
  have hagg:(isAgg 27).run Tryz.prog w=.ok true w:=by
   unfold isAgg
   rw[Sem.run_bind,run_underlying Tryz.underlying27 w]
   rfl
  simp[loadVar,Sem.run_bind,hagg,sizeOf,typeInfo,hq,hs,hl,CoM.val]
structure TokM where
 t:TokV
 A:Option Addr
 c:Nat
 L:List CoM
def tokCells (cust ser:Int) (id:ByteArray) (A:Option Addr) (n c:Nat) (s:List Nat):List Value:=[.int .i64 cust,.int .i64 ser,.string id,.slice A n c]++b8 s
def TokM.cells (x:TokM):List Value:=tokCells x.t.cust x.t.ser x.t.id x.A x.t.conds.length x.c x.t.sl
def TokM.val (x:TokM):Value:=.agg x.cells.toArray
structure TokReads (w:World) (x:TokM):Prop where
 same:x.L.map (·.c)=x.t.conds
 conds:CondsRead w x.A x.t.conds.length x.L
 sl:SealOk x.t.sl
 cap:x.t.conds.length≤x.c
theorem TokReads.keep {w w':World} {x:TokM} (h:TokReads w x) (hb:Below w.heap.size w w'):TokReads w' x:=⟨h.same,h.conds.keep hb,h.sl,h.cap⟩
theorem TokReads.size {w:World} {x:TokM} (h:TokReads w x):x.cells.length=20:=by
 show (_++b8 x.t.sl).length=20
 rw[List.length_append,b8_len,h.sl.len];rfl
def KeyV.cells (k:KeyV):List Value:=[.int .i64 k.party,.int .i64 k.ser,.string k.secret,.int .i64 k.fr,.int .i64 k.till]
def KeyV.val (k:KeyV):Value:=.agg #[.int .i64 k.party,.int .i64 k.ser,.string k.secret,.int .i64 k.fr,.int .i64 k.till]
def KeysRead (w:World) (A:Option Addr) (n:Nat) (L:List KeyV):Prop:=L.length=n∧Reads w 5 A n (L.flatMap KeyV.cells)
theorem KeysRead.keep {w w':World} {A:Option Addr} {n:Nat} {L:List KeyV} (h:KeysRead w A n L) (hb:Below w.heap.size w w'):KeysRead w' A n L:=⟨h.1,h.2.keep hb⟩
theorem KeysRead.at_ {w:World} {A:Option Addr} {n k:Nat} {L:List KeyV} {x:KeyV} (h:KeysRead w A n L) (hk:L[k]? = some x) :
  ∃ b o,A=some ⟨b,o,none⟩∧∀ j u,x.cells[j]? = some u→w.cell? ⟨b,o+k*5+j,none⟩=some u:=Reads.row h.2 (fun a _=>rfl) h.1 hk
theorem sealValid_any (k:KeyV) (w:World):Calls Tryz.prog 43 #[k.val] w (Ret w (.bool (validK k))):=by
 obtain⟨V,hV⟩:∃ V,V=validK k:=⟨_,rfl⟩
 rw[←hV]
 unfold validK at hV
 have HV:=Lib.hid hV
 clear hV
 obtain⟨p,s,sc,fr,ti⟩:=k
 unfold KeyV.val
 dsimp only at *
 by_cases h1:1≤min p s
 ·by_cases h2:max p s≤1073741824
  ·by_cases h3:1≤sc.size
   ·by_cases h4:sc.size≤64
    ·by_cases h5:0≤fr
     ·by_cases h6:fr<ti
      ·go_enter Tryz.func43,Tryz.ntmps43
       (go_wp2;go_ret;exact⟨ret_bool (by rw[HV.out];(rw[Bool.eq_iff_iff];simp only[decide_eq_true_eq,Bool.false_eq_true,eq_self,false_iff,iff_false,true_iff,iff_true];omega)),belB⟩)
      ·go_enter Tryz.func43,Tryz.ntmps43
       (go_wp2;go_ret;exact⟨ret_bool (by rw[HV.out];(rw[Bool.eq_iff_iff];simp only[decide_eq_true_eq,Bool.false_eq_true,eq_self,false_iff,iff_false,true_iff,iff_true];omega)),belB⟩)
     ·go_enter Tryz.func43,Tryz.ntmps43
      (go_wp2;go_ret;exact⟨ret_bool (by rw[HV.out];(rw[Bool.eq_iff_iff];simp only[decide_eq_true_eq,Bool.false_eq_true,eq_self,false_iff,iff_false,true_iff,iff_true];omega)),belB⟩)
    ·go_enter Tryz.func43,Tryz.ntmps43
     (go_wp2;go_ret;exact⟨ret_bool (by rw[HV.out];(rw[Bool.eq_iff_iff];simp only[decide_eq_true_eq,Bool.false_eq_true,eq_self,false_iff,iff_false,true_iff,iff_true];omega)),belB⟩)
   ·go_enter Tryz.func43,Tryz.ntmps43
    (go_wp2;go_ret;exact⟨ret_bool (by rw[HV.out];(rw[Bool.eq_iff_iff];simp only[decide_eq_true_eq,Bool.false_eq_true,eq_self,false_iff,iff_false,true_iff,iff_true];omega)),belB⟩)
  ·go_enter Tryz.func43,Tryz.ntmps43
   (go_wp2;go_ret;exact⟨ret_bool (by rw[HV.out];(rw[Bool.eq_iff_iff];simp only[decide_eq_true_eq,Bool.false_eq_true,eq_self,false_iff,iff_false,true_iff,iff_true];omega)),belB⟩)
 ·go_enter Tryz.func43,Tryz.ntmps43
  (go_wp2;go_ret;exact⟨ret_bool (by rw[HV.out];(rw[Bool.eq_iff_iff];simp only[decide_eq_true_eq,Bool.false_eq_true,eq_self,false_iff,iff_false,true_iff,iff_true];omega)),belB⟩)
theorem sealCounts_any (k:KeyV) (lo hi:Int) (w:World):Calls Tryz.prog 126 #[k.val,perV lo hi] w (Ret w (.bool (countsK k lo hi))):=by
 obtain⟨V,hV⟩:∃ V,V=countsK k lo hi:=⟨_,rfl⟩
 rw[←hV]
 unfold countsK at hV
 have HV:=Lib.hid hV
 clear hV
 unfold KeyV.val perV
 by_cases h1:0≤lo
 ·by_cases h2:lo≤hi
  ·by_cases h3:hi≤1099511627776
   ·by_cases h4:k.fr≤lo
    ·go_enter Tryz.func126,Tryz.ntmps126
     (go_wp2;go_ret;exact⟨ret_bool (by rw[HV.out];(rw[Bool.eq_iff_iff];simp only[decide_eq_true_eq,Bool.false_eq_true,eq_self,false_iff,iff_false,true_iff,iff_true];omega)),belB⟩)
    ·go_enter Tryz.func126,Tryz.ntmps126
     (go_wp2;go_ret;exact⟨ret_bool (by rw[HV.out];(rw[Bool.eq_iff_iff];simp only[decide_eq_true_eq,Bool.false_eq_true,eq_self,false_iff,iff_false,true_iff,iff_true];omega)),belB⟩)
   ·go_enter Tryz.func126,Tryz.ntmps126
    (go_wp2;go_ret;exact⟨ret_bool (by rw[HV.out];(rw[Bool.eq_iff_iff];simp only[decide_eq_true_eq,Bool.false_eq_true,eq_self,false_iff,iff_false,true_iff,iff_true];omega)),belB⟩)
  ·go_enter Tryz.func126,Tryz.ntmps126
   (go_wp2;go_ret;exact⟨ret_bool (by rw[HV.out];(rw[Bool.eq_iff_iff];simp only[decide_eq_true_eq,Bool.false_eq_true,eq_self,false_iff,iff_false,true_iff,iff_true];omega)),belB⟩)
 ·go_enter Tryz.func126,Tryz.ntmps126
  (go_wp2;go_ret;exact⟨ret_bool (by rw[HV.out];(rw[Bool.eq_iff_iff];simp only[decide_eq_true_eq,Bool.false_eq_true,eq_self,false_iff,iff_false,true_iff,iff_true];omega)),belB⟩)
def cmpK (k:KeyV) (n s:Int):Int:=if k.party=n then k.ser-s else k.party-n
def InK (x:Int):Prop:=-4294967296≤x∧x≤4294967296
theorem place1_any (k:KeyV) (n s:Int) (b:Nat) (w:World) (hp:InK k.party) (hs:InK k.ser) (hn:InK n) (hs2:InK s) (hc:w.cell? ⟨b,0,none⟩=some (.int .i64 s)) :
  Calls Tryz.prog 184 #[k.val,.int .i64 n,.pointer (some ⟨b,0,none⟩)] w (Ret w (.int .i64 (cmpK k n s))):=by
 unfold InK at *
 unfold cmpK KeyV.val
 have hz:=cell_lt hc
 by_cases h:k.party=n
 ·rw[if_pos h]
  have e1:(k.party != n)=false:=by simp[h]
  go_enter Tryz.func184,Tryz.ntmps184
  go_wp2
  go_ret
  exact⟨by simp,belB⟩
 ·rw[if_neg h]
  have e1:(k.party != n)=true:=by simp[h]
  go_enter Tryz.func184,Tryz.ntmps184
  go_wp2
  go_ret
  exact⟨by simp,belB⟩
end Go.Proofs.YtlkbkclnbppigaaGreatDoor
