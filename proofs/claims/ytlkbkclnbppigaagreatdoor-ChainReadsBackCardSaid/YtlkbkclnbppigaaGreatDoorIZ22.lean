/- Plain: when a condition holds, and what that says of Meet. -/
import Derived.Test.YtlkbkclnbppigaaGreatDoorIZ20
set_option maxHeartbeats 8000000
namespace Go.Proofs.YtlkbkclnbppigaaGreatDoor
open Go.RowKit Go.Sort
set_option linter.unusedVariables false
set_option linter.unusedSimpArgs false
set_option maxRecDepth 100000
structure AskV where
 addr:ByteArray
 client:ByteArray
 country:ByteArray
 site:Int
 lo:Int
 hi:Int
def validAsk (a:AskV):Bool:=readB a.addr&&isNameB a.client&&countryB a.country&&siteB a.site&&decide (0≤a.lo∧a.lo≤a.hi∧a.hi≤1099511627776)
def holdsC (c:CondV) (a:AskV):Bool:=validC c&&validAsk a&&decide (c.fr≤a.lo∧a.hi<c.till)&&matchB (patT c.pat) a.addr&&allowsL c.cl a.client&&allowsL c.co a.country&&allowsL c.si a.site
theorem two_cells (W:World) (t:Nat) (a b:Value) (g:Nat) (hg:g=W.heap.size):(W.alloc (.cells #[a,b] t)).cell? ⟨g,0,none⟩=some a∧(W.alloc (.cells #[a,b] t)).cell? ⟨g,1,none⟩=some b:=by
 subst hg
 have h:Blk (W.alloc (.cells #[a,b] t)) W.heap.size t #[a,b] (0,0):=World.alloc_heap_new _ _
 exact⟨Blk.cell h 0,Blk.cell h 1⟩
theorem condPattern_any (fr till us:Int) (pat:ByteArray) (A B S:Option Addr) (na ca nb cb ns cs:Nat) (w:World) :
  Calls Tryz.prog 87 #[.agg #[.int .i64 fr,.int .i64 till,.string pat,.slice A na ca,.slice B nb cb,.slice S ns cs,.int .i64 us]] w (Ret w (.string (if pat.size=0 then ⟨#[42,47,42,42]⟩ else pat))):=by
 have cO:=cmpOr_any
 generalize hV:(if pat.size=0 then (⟨#[42,47,42,42]⟩:ByteArray) else pat)=V
 have HC:=Lib.hid (fun (g c:Nat) (W:World) h0 h1=>hV▸cO g c pat ⟨#[42,47,42,42]⟩ W h0 h1)
 clear cO hV
 go_enter Tryz.func87,Tryz.ntmps87
 go_wp2_with (go_at_call 108;refine (HC.out _ _ _ (two_cells _ _ _ _ _ (by simp)).1 (two_cells _ _ _ _ _ (by simp)).2).mono ?_;rintro e w2 ⟨rfl,hb2⟩)
 go_ret
 exact⟨rfl,belB⟩
theorem allowsS_any (A:Option Addr) (n c:Nat) (xs:List ByteArray) (x:ByteArray) (w:World) (hA:Reads w 1 A n (xs.map .string)) (hn:n≤1000000000):Calls Tryz.prog 88 #[.slice A n c,.string x] w (Ret w (.bool (allowsL xs x))):=by
 have hl:xs.length=n:=by have:=hA.1;simp at this;omega
 rcases Nat.eq_zero_or_pos n with h0 | h0
 ·subst h0
  obtain rfl:xs=[]:=List.eq_nil_of_length_eq_zero hl
  go_enter Tryz.func88,Tryz.ntmps88
  go_wp2
  go_ret
  exact⟨rfl,Below.refl _ _⟩
 ·have he:xs.isEmpty=false:=by cases xs;simp at hl;omega;rfl
  obtain⟨b,o,rfl,hc⟩:=hA.2 h0
  have cC:=fun (W:World) (hb:Below w.heap.size w W)=>Tryz.slices_Contains_string b o n c xs x W (by omega) (by omega) (fun j hj=>by
    refine cell_keep hb (hc j _ ?_)
    rw[List.getElem?_map,List.getElem?_eq_getElem hj]
    simp[List.getD_eq_getElem?_getD,List.getElem?_eq_getElem hj])
  rw[List.take_of_length_le (by omega)]at cC
  have hcs:Lib.containsS xs x=allowsL xs x:=by
   unfold allowsL
   rw[he,Bool.false_or,Bool.eq_iff_iff,Lib.containsS_iff]
   simp
  rw[hcs]at cC
  have HC:=Lib.hid cC
  have hn0:((n:Int)==0)=false:=by simp;omega
  clear cC hc hA hcs he
  generalize allowsL xs x=res at *
  go_enter Tryz.func88,Tryz.ntmps88
  go_wp2_with (go_at_call 150;refine (HC.out _ belB).mono ?_;rintro e w2 ⟨rfl,rfl⟩)
  go_ret
  exact⟨rfl,belB⟩
theorem allowsI_any (A:Option Addr) (n c:Nat) (xs:List Int) (x:Int) (w:World) (hA:Reads w 1 A n (xs.map (.int .i64))) (hn:n≤1000000000):Calls Tryz.prog 89 #[.slice A n c,.int .i64 x] w (Ret w (.bool (allowsL xs x))):=by
 have hl:xs.length=n:=by have:=hA.1;simp at this;omega
 rcases Nat.eq_zero_or_pos n with h0 | h0
 ·subst h0
  obtain rfl:xs=[]:=List.eq_nil_of_length_eq_zero hl
  go_enter Tryz.func89,Tryz.ntmps89
  go_wp2
  go_ret
  exact⟨rfl,Below.refl _ _⟩
 ·have he:xs.isEmpty=false:=by cases xs;simp at hl;omega;rfl
  obtain⟨b,o,rfl,hc⟩:=hA.2 h0
  have cC:=fun (W:World) (hb:Below w.heap.size w W)=>Tryz.slices_Contains_int b o n c xs x W (by omega) (by omega) (fun j hj=>by
    refine cell_keep hb (hc j _ ?_)
    rw[List.getElem?_map,List.getElem?_eq_getElem hj]
    simp[List.getD_eq_getElem?_getD,List.getElem?_eq_getElem hj])
  rw[List.take_of_length_le (by omega)]at cC
  have hcs:xs.contains x=allowsL xs x:=by
   unfold allowsL
   rw[he,Bool.false_or]
  rw[hcs]at cC
  have HC:=Lib.hid cC
  have hn0:((n:Int)==0)=false:=by simp;omega
  clear cC hc hA he hcs
  generalize allowsL xs x=res at *
  go_enter Tryz.func89,Tryz.ntmps89
  go_wp2_with (go_at_call 151;refine (HC.out _ belB).mono ?_;rintro e w2 ⟨rfl,rfl⟩)
  go_ret
  exact⟨rfl,belB⟩
theorem single_comp (s:ByteArray) (h:47 ∉ s.data.toList):(compileB s).isSome=headOkB s:=by
 unfold compileB
 have e:splitB 47 s=[s]:=splitB_miss 47 s (by rw[indexByte_miss _ _ h];omega)
 rw[e,compL_cons]
 cases headOkB s
 ·rfl
 ·rfl
theorem name_eq (s:ByteArray):isNameB s=(!(s.toList == [42])&&!decide (0≤Lib.indexByte s.data.toList 47)&&(compileB s).isSome):=by
 by_cases h:47∈s.data.toList
 ·have h1:isNameB s=false:=by
   cases hn:isNameB s
   ·rfl
   ·exact absurd h (word_no (name_word hn)).1
  have h2:decide (0≤Lib.indexByte s.data.toList 47)=true:=by
   rw[decide_eq_true_eq]
   rcases Int.lt_or_le (Lib.indexByte s.data.toList 47) 0 with hlt | hle
   ·exact absurd h (indexByte_mem _ _ hlt)
   ·exact hle
  rw[h1,h2];simp
 ·rw[indexByte_miss _ _ h,single_comp s h]
  unfold headOkB
  cases hs:(s.toList == [42])
  ·simp
  ·have:isNameB s=false:=by
    cases hn:isNameB s
    ·rfl
    ·have:=(word_no (name_word hn)).2.2.2.2.1
     rw[beq_iff_eq,Lib.toList_data]at hs
     rw[hs]at this
     exact absurd (by simp) this
   rw[this];rfl
theorem condName_any (s:ByteArray) (w:World) (hs:s.size≤100000) (hE:Env w):Calls Tryz.prog 101 #[.string s] w (Ret w (.bool (isNameB s))):=by
 have HVA:=Lib.hid (fun W h=>valid_any s W hs h)
 have HE:=Lib.hid hE
 rw[name_eq]
 clear hE
 generalize (compileB s).isSome=b at *
 generalize hc:decide (0≤Lib.indexByte s.data.toList 47)=cc
 have cC:=fun W=>Tryz.strings_Contains_one s 47 W
 rw[hc]at cC
 have HC:=Lib.hid cC
 clear cC hc
 cases h1:(s.toList == [42])
 ·have h1':¬ s.toList=[42]:=by simpa using h1
  cases cc
  ·go_enter Tryz.func101,Tryz.ntmps101
   go_wp2_with (first | (go_at_call 163;refine (HC.out _).mono ?_;rintro e w1 ⟨rfl,rfl⟩) | (go_at_call 99;refine (HVA.out _ (Env.keep HE.out belB)).mono ?_;rintro e w2 ⟨rfl,hb2⟩))
   go_ret
   exact⟨ret_bool (by simp),belB⟩
  ·go_enter Tryz.func101,Tryz.ntmps101
   go_wp2_with (first | (go_at_call 163;refine (HC.out _).mono ?_;rintro e w1 ⟨rfl,rfl⟩) | (go_at_call 99;refine (HVA.out _ (Env.keep HE.out belB)).mono ?_;rintro e w2 ⟨rfl,hb2⟩))
   go_ret
   exact⟨rfl,belB⟩
 ·have h1':s.toList=[42]:=by simpa using h1
  go_enter Tryz.func101,Tryz.ntmps101
  go_wp2
  all_goals (go_ret;exact⟨rfl,belB⟩)
theorem le_prevI (x y:Int):decide (x≤y) = !ltI y x:=by
 unfold ltI
 rw[Bool.eq_iff_iff];simp
theorem isSetI_any (g:Nat) (eg:∀ args w,(callFunc g args).run Tryz.prog w=.ok (.enter g args) w) (right:Int→Bool) (A:Option Addr) (n c:Nat) (xs:List Int) (most:Nat) (w:World)
  (hp:∀ x,∀ W,Calls Tryz.prog g #[.int .i64 x] W (Ret W (.bool (right x)))) (hA:Reads w 1 A n (xs.map (.int .i64))) (hn:n≤1000000000) (hm:most≤1000000) :
  Calls Tryz.prog 103 #[.slice A n c,.int .i64 most,.func (.func g) #[] #[]] w (Ret w (.bool (setB ltI right most xs))):=by
 have hl:xs.length=n:=by have:=hA.1;simp at this;omega
 have HP:=Lib.hid hp;have HA:=Lib.hid hA;have HL:=Lib.hid hl
 obtain⟨V,hV⟩:∃ V,V=setB ltI right most xs:=⟨_,rfl⟩
 rw[←hV]
 have HV:=Lib.hid hV
 clear hp hA hl hV
 go_enter Tryz.func103,Tryz.ntmps103
 go_wp2
 go_loopw [11] (fun i wr=>∃ k:Nat,k≤n∧i=.int .i64 k∧Hid ((List.range k).all (okK ltI right xs)=true)∧Below w.heap.size w wr) (fun i _=>n-(intOf i).toNat)
 case atStart=>exact⟨0,by omega,rfl,Lib.hid rfl,Below.refl _ _⟩
 case round =>
  obtain⟨k,hk,rfl,HK,hb⟩:=hrel
  by_cases hlt:k<n
  ·obtain⟨x,hx⟩:∃ x,xs[k]? = some x:=⟨_,List.getElem?_eq_getElem (by have:=HL.out;omega)⟩
   obtain⟨pb,po,rfl,hcell⟩:=(HA.out.keep hb).2 (by omega)
   have hc1:wr.cell? ⟨pb,po+k,none⟩=some (.int .i64 x):=hcell k _ (by simp[hx])
   have hc:=fun W=>HP.out x W
   have hok:okK ltI right xs k=(right x&&(k==0||(match xs[k-1]? with
    | none=>true
    | some y=>ltI y x))):=by unfold okK;rw[hx];cases xs[k-1]? <;> rfl
   have hfail:okK ltI right xs k=false→V=false:=fun h=>by rw[HV.out];exact okK_fail (by have:=HL.out;omega) h
   cases hr:right x
   ·have hVf:V=false:=hfail (by rw[hok,hr];rfl)
    rw[hr]at hc
    have HC:=Lib.hid hc
    clear hc hr hok hfail hcell hx
    subst hVf
    go_wp2_with (go_at_fn g;refine (HC.out _).mono ?_;rintro e w2 ⟨rfl,hb2⟩)
    go_ret
    exact⟨rfl,belB⟩
   ·rw[hr]at hc
    have HC:=Lib.hid hc
    rcases k with _ | j
    ·have HK2:Hid ((List.range (0+1)).all (okK ltI right xs)=true):=Lib.hid (okK_upto HK.out (by rw[hok,hr];rfl))
     simp only[Nat.add_zero]at hc1
     clear hc hr hok hfail hcell hx
     go_wp2_with (go_at_fn g;refine (HC.out _).mono ?_;rintro e w2 ⟨rfl,hb2⟩)
     exact⟨⟨1,by omega,by go_num,HK2,belB⟩,by simp[intOf];omega⟩
    ·obtain⟨y,hy⟩:∃ y,xs[j]? = some y:=⟨_,List.getElem?_eq_getElem (by have:=HL.out;omega)⟩
     have hc2:wr.cell? ⟨pb,po+j,none⟩=some (.int .i64 y):=hcell j _ (by simp[hy])
     have hle:=le_prevI x y
     rw[Nat.add_sub_cancel,hy]at hok
     have hok:okK ltI right xs (j+1)=ltI y x:=by rw[hok,hr];simp
     have hj0:(0:Int)≤(j:Int):=by omega
     have hj1:(j:Int)<(n:Int):=by omega
     cases ht:ltI y x
     ·have hVf:V=false:=hfail (by rw[hok,ht])
      rw[ht]at hle
      clear hc hr hok hfail hcell hx hy
      subst hVf
      go_wp2_with (go_at_fn g;refine (HC.out _).mono ?_;rintro e w2 ⟨rfl,hb2⟩;have hc3:=cell_keep hb2 hc2)
      go_ret
      exact⟨rfl,belB⟩
     ·have HK2:Hid ((List.range (j+1+1)).all (okK ltI right xs)=true):=Lib.hid (okK_upto HK.out (by rw[hok,ht]))
      rw[ht]at hle
      clear hc hr hok hfail hcell hx hy
      go_wp2_with (go_at_fn g;refine (HC.out _).mono ?_;rintro e w2 ⟨rfl,hb2⟩;have hc3:=cell_keep hb2 hc2)
      exact⟨⟨j+1+1,by omega,by go_num,HK2,belB⟩,by simp[intOf];omega⟩
  ·obtain rfl:k=n:=by omega
   have hv:V=decide (k≤most):=by rw[HV.out];unfold setB;rw[HL.out,HK.out];rfl
   by_cases hm2:k≤most
   ·rw[decide_eq_true hm2]at hv
    have d1:decide ((k:Int)≤most)=true:=decide_eq_true (by omega)
    subst hv
    go_wp2
    go_ret
    exact⟨rfl,hb⟩
   ·rw[decide_eq_false hm2]at hv
    have d1:decide ((k:Int)≤most)=false:=decide_eq_false (by omega)
    subst hv
    go_wp2
    go_ret
    exact⟨rfl,hb⟩
def AskV.val (a:AskV):Value:=.agg #[.string a.addr,.string a.client,.string a.country,.int .i64 a.site,.int .i64 a.lo,.int .i64 a.hi]
def totP (l:List (List UInt8)):Nat:=(pathL l).length
theorem totP_cons (x:List UInt8) (l:List (List UInt8)):totP (x :: l)=x.length+1+totP l:=by simp[totP,pathL];omega
theorem totP_nil:totP []=0:=rfl
theorem totP_app (a b:List (List UInt8)):totP (a++b)=totP a+totP b:=by simp[totP,pathL]
theorem split_tot (c:UInt8):∀ l:List UInt8,totP (splitL c l)=l.length+1
 | []=>by simp[splitL,totP_cons,totP_nil]
 | b :: l=>by
  have ih:=split_tot c l
  unfold splitL
  split
  ·rw[totP_cons,ih];simp;omega
  ·cases hs:splitL c l with
   | nil=>exact absurd hs (splitL_ne c l)
   | cons p ps =>
    rw[hs,totP_cons]at ih
    simp only[totP_cons,List.length_cons]
    omega
theorem lists_split (c:UInt8) (s:ByteArray):lists (splitB c s)=splitL c s.data.toList:=by
 unfold splitB lists
 rw[List.map_map]
 conv=>rhs;rw[←List.map_id (splitL c s.data.toList)]
 exact List.map_congr_left fun x _=>rfl
theorem totP_dropLast (l:List ByteArray):totP (lists l.dropLast)≤totP (lists l):=by
 rcases List.eq_nil_or_concat l with rfl | ⟨a,x,rfl⟩
 ·exact Nat.le_refl _
 ·rw[List.concat_eq_append,List.dropLast_concat]
  unfold lists
  rw[List.map_append,totP_app]
  omega
theorem res_tot:∀ (ps out r:List ByteArray),resB out ps=some r→totP (lists r)≤totP (lists out)+totP (lists ps)
 | [],out,r,e=>by simp[resB]at e;subst e;simp[lists,totP_nil]
 | p :: ps,out,r,e=>by
  rw[resB]at e
  cases hs:resStep out p with
  | none=>rw[hs]at e;cases e
  | some o =>
   rw[hs,Option.bind_some]at e
   have ih:=res_tot ps o r e
   have ho:totP (lists o)≤totP (lists out)+(p.data.toList.length+1):=by
    unfold resStep at hs
    split at hs
    ·injection hs with hs;subst hs;omega
    ·split at hs
     ·injection hs with hs;subst hs
      have:=totP_dropLast out
      omega
     ·split at hs
      ·injection hs with hs;subst hs
       unfold lists
       rw[List.map_append,totP_app,List.map_cons,totP_cons]
       simp[totP_nil]
      ·cases hs
   have hp:totP (lists (p :: ps))=p.data.toList.length+1+totP (lists ps):=totP_cons _ _
   omega
def totQ:List (List UInt8 × List UInt8)→Nat
 | []=>0
 | q :: l=>q.1.length+q.2.length+2+totQ l
theorem query_tot:∀ (sep:UInt8) (l:List (List UInt8 × List UInt8)),(queryL sep l).length=totQ l
 | _,[]=>rfl
 | sep,(k,v) :: l=>by simp[queryL,totQ,query_tot 38 l];omega
theorem insL_tot (p:List UInt8 × List UInt8):∀ l:List (List UInt8 × List UInt8),totQ (insL l p)≤totQ l+(p.1.length+p.2.length+2)
 | []=>by simp[insL,totQ]
 | q :: l=>by
  unfold insL
  have ih:=insL_tot p l
  split
  ·simp only[totQ];omega
  ·split <;> simp only[totQ] <;> omega
theorem fold_tot:∀ (l acc:List (List UInt8 × List UInt8)),totQ (l.foldl insL acc)≤totQ acc+totQ l
 | [],acc=>by simp[totQ]
 | p :: l,acc=>by
  have h1:=fold_tot l (insL acc p)
  have h2:=insL_tot p acc
  rw[List.foldl_cons]
  simp only[totQ]
  omega
theorem totQ_app:∀ (a b:List (List UInt8 × List UInt8)),totQ (a++b)=totQ a+totQ b
 | [],b=>by simp[totQ]
 | q :: a,b=>by simp only[List.cons_append,totQ,totQ_app a b];omega
theorem cut_tot (l:List UInt8) (c:UInt8):(Lib.cut l [c]).1.length+(if (Lib.cut l [c]).2.2 then 1+(Lib.cut l [c]).2.1.length else 0)=l.length∧((Lib.cut l [c]).2.2=false→(Lib.cut l [c]).2.1=[]):=by
 by_cases h:c∈l
 ·obtain⟨a,b,rfl,hna⟩:∃ a b,l=a++c :: b∧c ∉ a:=by
   induction l with
   | nil=>simp at h
   | cons x l ih =>
    by_cases e:x=c
    ·subst e;exact⟨[],l,rfl,by simp⟩
    ·rcases List.mem_cons.1 h with h | h
     ·exact absurd h.symm e
     ·obtain⟨a,b,h1,h2⟩:=ih h
      exact⟨x :: a,b,by rw[h1];rfl,by simp[h2];exact fun e2=>e e2.symm⟩
  rw[cut_hit a b c hna]
  simp
  omega
 ·rw[cut_none l c h]
  simp
theorem qAcc_tot:∀ (ps:List ByteArray) (acc r:List (List UInt8 × List UInt8)),qAcc acc ps=some r→totQ r≤totQ acc+totP (lists ps)
 | [],acc,r,e=>by simp[qAcc]at e;subst e;simp[lists,totP_nil]
 | p :: ps,acc,r,e=>by
  rw[qAcc]at e
  cases hs:parsePair p with
  | none=>rw[hs]at e;cases e
  | some x =>
   rw[hs]at e
   have ih:=qAcc_tot ps _ r e
   have hx:x.1.length+x.2.length+1=p.data.toList.length:=by
    unfold parsePair at hs
    split at hs
    ·rename_i hc
     injection hs with hs
     subst hs
     simp only[Bool.and_eq_true]at hc
     have:=(cut_tot p.data.toList 61).1
     rw[hc.1.1]at this
     simp only[if_true]at this
     dsimp only
     omega
    ·cases hs
   have hp:totP (lists (p :: ps))=p.data.toList.length+1+totP (lists ps):=totP_cons _ _
   rw[totQ_app]at ih
   simp only[totQ]at ih
   omega
theorem pairs_tot (q:List UInt8) (r:List (ByteArray × ByteArray)) (h:pairsB (toB q)=some r):totQ (lists2 r)≤(if q=[] then 0 else q.length+1):=by
 unfold pairsB at h
 split at h
 ·injection h with h;subst h;simp[lists2,totQ]
 ·rename_i hne
  rw[Lib.toList_data]at hne
  have hq:q ≠ []:=fun e=>hne (by rw[e];rfl)
  rw[if_neg hq]
  obtain⟨acc,ha,rfl⟩:=Option.map_eq_some_iff.1 h
  have h1:=qAcc_tot _ _ _ ha
  rw[lists_split,split_tot]at h1
  have h2:=fold_tot acc []
  have h3:lists2 ((pairsL acc).map fun q=>(toB q.1,toB q.2))=pairsL acc:=by
   unfold lists2
   rw[List.map_map]
   conv=>rhs;rw[←List.map_id (pairsL acc)]
   exact List.map_congr_left fun x _=>rfl
  rw[h3]
  unfold pairsL
  simp only[totQ]at h1 h2
  have h4:(toB q).data.toList.length=q.length:=rfl
  omega
theorem trimS_le (l:List UInt8):(Lib.trimSuffix l [47]).length≤l.length:=trim_len l [47]
theorem parse_short (s:ByteArray) (h:(parseB s).2=0):(W06 (parseB s).1.cust (parseB s).1.path (parseB s).1.query).length≤s.size∧s.size≤4096:=by
 unfold parseB at h ⊢
 split at h
 ·cases h
 ·rename_i hs
  rw[if_neg hs]
  refine⟨?_,by omega⟩
  have hl0:=cut_tot (lowL s.data.toList) 63
  have hc0:=cut_tot (Lib.trimSuffix (leftL s).1 [47]) 47
  have ht:=trimS_le (leftL s).1
  have hlow:=lowL_len s.data.toList
  have hp:∀ p,pathB (custL s)=some p→totP (lists p)≤if (custL s).2.2 then 1+(custL s).2.1.length else 0:=by
   intro p hp
   unfold pathB at hp
   split at hp
   ·rename_i hm
    have:=res_tot _ _ _ hp
    rw[lists_split,split_tot]at this
    have e:(toB (custL s).2.1).data.toList.length=(custL s).2.1.length:=rfl
    simp only[lists,List.map_nil,totP_nil]at this
    rw[if_pos hm]
    unfold lists
    omega
   ·injection hp with hp;subst hp;simp[lists,totP_nil]
  have hq:=fun r h=>pairs_tot (leftL s).2.1 r h
  rw[size_data,←hlow]
  change (leftL s).1.length+(if (leftL s).2.2 then 1+(leftL s).2.1.length else 0)=_∧_ at hl0
  change (custL s).1.length+(if (custL s).2.2 then 1+(custL s).2.1.length else 0)=_∧_ at hc0
  generalize pathB (custL s)=rr at *
  generalize pairsB (toB (leftL s).2.1)=qq at *
  generalize isNameB (toB (custL s).1)=nm at *
  unfold adrOf at h ⊢
  split at h
  ·split at h
   ·rename_i hl
    rw[if_pos hl]
    dsimp only
    have h1:=hp _ rfl
    have h2:=hq _ rfl
    unfold W06 writeL
    rw[List.length_append,List.length_append,query_tot]
    have e1:(toB (custL s).1).data.toList.length=(custL s).1.length:=rfl
    unfold totP at h1
    have h3:(if (leftL s).2.1=[] then 0 else (leftL s).2.1.length+1)≤if (leftL s).2.2 then 1+(leftL s).2.1.length else 0:=by
     split
     ·omega
     ·rename_i hne
      cases hb:(leftL s).2.2
      ·exact absurd (hl0.2 hb) hne
      ·simp;omega
    omega
   ·cases h
  ·cases h
theorem canon_shape (s:ByteArray):∃ (t:ByteArray) (f:Int),canonV s=.tuple #[.string t,.int .i64 f]∧readB s=(decide (f=0)&&(t.toList==s.toList)):=by
 unfold canonV readB
 by_cases h:(parseB s).2=0
 ·have hg:=parse_good s h
  have hsh:=parse_short s h
  have hf:formedB (parseB s).1.cust (parseB s).1.path (parseB s).1.query=true:=(formed_iff _ _ _).2 ⟨hg,by omega⟩
  rw[if_pos h]
  unfold textV
  rw[if_pos hf,decide_eq_true h]
  exact⟨_,0,rfl,rfl⟩
 ·rw[if_neg h]
  refine⟨_,_,rfl,?_⟩
  rw[decide_eq_false h]
  rfl
theorem validAsk_any (a:AskV) (w:World) (h1:a.addr.size≤100000) (h2:a.client.size≤100000) (h3:a.country.size≤100000) (hE:Env w):Calls Tryz.prog 85 #[AskV.val a] w (Ret w (.bool (validAsk a))):=by
 obtain⟨ad,cl,co,si,lo,hi⟩:=a
 dsimp only at h1 h2 h3
 unfold AskV.val
 dsimp only
 obtain⟨V,hV⟩:∃ V,V=validAsk ⟨ad,cl,co,si,lo,hi⟩:=⟨_,rfl⟩
 rw[←hV]
 unfold validAsk at hV
 dsimp only at hV
 obtain⟨t,f,hcs,hrb⟩:=canon_shape ad
 have c1:=fun W h=>canonical_any ad W (by omega) h
 have c2:=fun W h=>condName_any cl W h2 h
 have c3:=fun W=>isCountry_any co W (by omega)
 have c4:=fun W=>isSite_any si W
 rw[hcs]at c1
 rw[hrb]at hV
 clear hcs hrb
 generalize isNameB cl=b2 at *
 generalize countryB co=b3 at *
 generalize siteB si=b4 at *
 have C1:=Lib.hid c1
 have C2:=Lib.hid c2
 have C3:=Lib.hid c3
 have C4:=Lib.hid c4
 have HE:=Lib.hid hE
 clear c1 c2 c3 c4 hE h1 h2 h3
 by_cases t1:f=0
 rotate_left
 ·obtain rfl:V=false:=by rw[hV];simp[t1]
  have d1:(f==0)=false:=by simpa using t1
  clear hV
  (go_enter Tryz.func85,Tryz.ntmps85;go_wp2_with (first | (go_at_call 146;refine (C1.out _ (Env.keep HE.out belB)).mono ?_;rintro e w2 ⟨rfl,hb2⟩;(have hX2:Blk w2 w.heap.size 59 #[.string ad,.string cl,.string co,.int .i64 si,.int .i64 lo,.int .i64 hi] (0,0):=(by first | exact Blk.keep hX2 hb2 | exact Blk.keep (World.alloc_heap_new _ _) hb2);have x0:=hX2.cell 0;have x1:=hX2.cell 1;have x2:=hX2.cell 2;have x3:=hX2.cell 3;have x4:=hX2.cell 4;have x5:=hX2.cell 5)) | (go_at_call 101;refine (C2.out _ (Env.keep HE.out belB)).mono ?_;rintro e w2 ⟨rfl,hb2⟩;(have hX2:Blk w2 w.heap.size 59 #[.string ad,.string cl,.string co,.int .i64 si,.int .i64 lo,.int .i64 hi] (0,0):=(by first | exact Blk.keep hX2 hb2 | exact Blk.keep (World.alloc_heap_new _ _) hb2);have x0:=hX2.cell 0;have x1:=hX2.cell 1;have x2:=hX2.cell 2;have x3:=hX2.cell 3;have x4:=hX2.cell 4;have x5:=hX2.cell 5)) | (go_at_call 102;refine (C3.out _).mono ?_;rintro e w2 ⟨rfl,hb2⟩;(have hX2:Blk w2 w.heap.size 59 #[.string ad,.string cl,.string co,.int .i64 si,.int .i64 lo,.int .i64 hi] (0,0):=(by first | exact Blk.keep hX2 hb2 | exact Blk.keep (World.alloc_heap_new _ _) hb2);have x0:=hX2.cell 0;have x1:=hX2.cell 1;have x2:=hX2.cell 2;have x3:=hX2.cell 3;have x4:=hX2.cell 4;have x5:=hX2.cell 5)) | (go_at_call 104;refine (C4.out _).mono ?_;rintro e w2 ⟨rfl,hb2⟩;(have hX2:Blk w2 w.heap.size 59 #[.string ad,.string cl,.string co,.int .i64 si,.int .i64 lo,.int .i64 hi] (0,0):=(by first | exact Blk.keep hX2 hb2 | exact Blk.keep (World.alloc_heap_new _ _) hb2);have x0:=hX2.cell 0;have x1:=hX2.cell 1;have x2:=hX2.cell 2;have x3:=hX2.cell 3;have x4:=hX2.cell 4;have x5:=hX2.cell 5)));go_ret;exact⟨rfl,belB⟩)
 subst t1
 have hV2:V=((t.toList==ad.toList)&&b2&&b3&&b4&&decide (0≤lo∧lo≤hi∧hi≤1099511627776)):=by rw[hV];rfl
 clear hV
 cases t2:(t.toList==ad.toList)
 ·obtain rfl:V=false:=by rw[hV2,t2];rfl
  clear hV2
  (go_enter Tryz.func85,Tryz.ntmps85;go_wp2_with (first | (go_at_call 146;refine (C1.out _ (Env.keep HE.out belB)).mono ?_;rintro e w2 ⟨rfl,hb2⟩;(have hX2:Blk w2 w.heap.size 59 #[.string ad,.string cl,.string co,.int .i64 si,.int .i64 lo,.int .i64 hi] (0,0):=(by first | exact Blk.keep hX2 hb2 | exact Blk.keep (World.alloc_heap_new _ _) hb2);have x0:=hX2.cell 0;have x1:=hX2.cell 1;have x2:=hX2.cell 2;have x3:=hX2.cell 3;have x4:=hX2.cell 4;have x5:=hX2.cell 5)) | (go_at_call 101;refine (C2.out _ (Env.keep HE.out belB)).mono ?_;rintro e w2 ⟨rfl,hb2⟩;(have hX2:Blk w2 w.heap.size 59 #[.string ad,.string cl,.string co,.int .i64 si,.int .i64 lo,.int .i64 hi] (0,0):=(by first | exact Blk.keep hX2 hb2 | exact Blk.keep (World.alloc_heap_new _ _) hb2);have x0:=hX2.cell 0;have x1:=hX2.cell 1;have x2:=hX2.cell 2;have x3:=hX2.cell 3;have x4:=hX2.cell 4;have x5:=hX2.cell 5)) | (go_at_call 102;refine (C3.out _).mono ?_;rintro e w2 ⟨rfl,hb2⟩;(have hX2:Blk w2 w.heap.size 59 #[.string ad,.string cl,.string co,.int .i64 si,.int .i64 lo,.int .i64 hi] (0,0):=(by first | exact Blk.keep hX2 hb2 | exact Blk.keep (World.alloc_heap_new _ _) hb2);have x0:=hX2.cell 0;have x1:=hX2.cell 1;have x2:=hX2.cell 2;have x3:=hX2.cell 3;have x4:=hX2.cell 4;have x5:=hX2.cell 5)) | (go_at_call 104;refine (C4.out _).mono ?_;rintro e w2 ⟨rfl,hb2⟩;(have hX2:Blk w2 w.heap.size 59 #[.string ad,.string cl,.string co,.int .i64 si,.int .i64 lo,.int .i64 hi] (0,0):=(by first | exact Blk.keep hX2 hb2 | exact Blk.keep (World.alloc_heap_new _ _) hb2);have x0:=hX2.cell 0;have x1:=hX2.cell 1;have x2:=hX2.cell 2;have x3:=hX2.cell 3;have x4:=hX2.cell 4;have x5:=hX2.cell 5)));go_ret;exact⟨rfl,belB⟩)
 rw[t2]at hV2
 cases b2
 ·obtain rfl:V=false:=by rw[hV2];rfl
  clear hV2
  (go_enter Tryz.func85,Tryz.ntmps85;go_wp2_with (first | (go_at_call 146;refine (C1.out _ (Env.keep HE.out belB)).mono ?_;rintro e w2 ⟨rfl,hb2⟩;(have hX2:Blk w2 w.heap.size 59 #[.string ad,.string cl,.string co,.int .i64 si,.int .i64 lo,.int .i64 hi] (0,0):=(by first | exact Blk.keep hX2 hb2 | exact Blk.keep (World.alloc_heap_new _ _) hb2);have x0:=hX2.cell 0;have x1:=hX2.cell 1;have x2:=hX2.cell 2;have x3:=hX2.cell 3;have x4:=hX2.cell 4;have x5:=hX2.cell 5)) | (go_at_call 101;refine (C2.out _ (Env.keep HE.out belB)).mono ?_;rintro e w2 ⟨rfl,hb2⟩;(have hX2:Blk w2 w.heap.size 59 #[.string ad,.string cl,.string co,.int .i64 si,.int .i64 lo,.int .i64 hi] (0,0):=(by first | exact Blk.keep hX2 hb2 | exact Blk.keep (World.alloc_heap_new _ _) hb2);have x0:=hX2.cell 0;have x1:=hX2.cell 1;have x2:=hX2.cell 2;have x3:=hX2.cell 3;have x4:=hX2.cell 4;have x5:=hX2.cell 5)) | (go_at_call 102;refine (C3.out _).mono ?_;rintro e w2 ⟨rfl,hb2⟩;(have hX2:Blk w2 w.heap.size 59 #[.string ad,.string cl,.string co,.int .i64 si,.int .i64 lo,.int .i64 hi] (0,0):=(by first | exact Blk.keep hX2 hb2 | exact Blk.keep (World.alloc_heap_new _ _) hb2);have x0:=hX2.cell 0;have x1:=hX2.cell 1;have x2:=hX2.cell 2;have x3:=hX2.cell 3;have x4:=hX2.cell 4;have x5:=hX2.cell 5)) | (go_at_call 104;refine (C4.out _).mono ?_;rintro e w2 ⟨rfl,hb2⟩;(have hX2:Blk w2 w.heap.size 59 #[.string ad,.string cl,.string co,.int .i64 si,.int .i64 lo,.int .i64 hi] (0,0):=(by first | exact Blk.keep hX2 hb2 | exact Blk.keep (World.alloc_heap_new _ _) hb2);have x0:=hX2.cell 0;have x1:=hX2.cell 1;have x2:=hX2.cell 2;have x3:=hX2.cell 3;have x4:=hX2.cell 4;have x5:=hX2.cell 5)));go_ret;exact⟨rfl,belB⟩)
 cases b3
 ·obtain rfl:V=false:=by rw[hV2];rfl
  clear hV2
  (go_enter Tryz.func85,Tryz.ntmps85;go_wp2_with (first | (go_at_call 146;refine (C1.out _ (Env.keep HE.out belB)).mono ?_;rintro e w2 ⟨rfl,hb2⟩;(have hX2:Blk w2 w.heap.size 59 #[.string ad,.string cl,.string co,.int .i64 si,.int .i64 lo,.int .i64 hi] (0,0):=(by first | exact Blk.keep hX2 hb2 | exact Blk.keep (World.alloc_heap_new _ _) hb2);have x0:=hX2.cell 0;have x1:=hX2.cell 1;have x2:=hX2.cell 2;have x3:=hX2.cell 3;have x4:=hX2.cell 4;have x5:=hX2.cell 5)) | (go_at_call 101;refine (C2.out _ (Env.keep HE.out belB)).mono ?_;rintro e w2 ⟨rfl,hb2⟩;(have hX2:Blk w2 w.heap.size 59 #[.string ad,.string cl,.string co,.int .i64 si,.int .i64 lo,.int .i64 hi] (0,0):=(by first | exact Blk.keep hX2 hb2 | exact Blk.keep (World.alloc_heap_new _ _) hb2);have x0:=hX2.cell 0;have x1:=hX2.cell 1;have x2:=hX2.cell 2;have x3:=hX2.cell 3;have x4:=hX2.cell 4;have x5:=hX2.cell 5)) | (go_at_call 102;refine (C3.out _).mono ?_;rintro e w2 ⟨rfl,hb2⟩;(have hX2:Blk w2 w.heap.size 59 #[.string ad,.string cl,.string co,.int .i64 si,.int .i64 lo,.int .i64 hi] (0,0):=(by first | exact Blk.keep hX2 hb2 | exact Blk.keep (World.alloc_heap_new _ _) hb2);have x0:=hX2.cell 0;have x1:=hX2.cell 1;have x2:=hX2.cell 2;have x3:=hX2.cell 3;have x4:=hX2.cell 4;have x5:=hX2.cell 5)) | (go_at_call 104;refine (C4.out _).mono ?_;rintro e w2 ⟨rfl,hb2⟩;(have hX2:Blk w2 w.heap.size 59 #[.string ad,.string cl,.string co,.int .i64 si,.int .i64 lo,.int .i64 hi] (0,0):=(by first | exact Blk.keep hX2 hb2 | exact Blk.keep (World.alloc_heap_new _ _) hb2);have x0:=hX2.cell 0;have x1:=hX2.cell 1;have x2:=hX2.cell 2;have x3:=hX2.cell 3;have x4:=hX2.cell 4;have x5:=hX2.cell 5)));go_ret;exact⟨rfl,belB⟩)
 cases b4
 ·obtain rfl:V=false:=by rw[hV2];rfl
  clear hV2
  (go_enter Tryz.func85,Tryz.ntmps85;go_wp2_with (first | (go_at_call 146;refine (C1.out _ (Env.keep HE.out belB)).mono ?_;rintro e w2 ⟨rfl,hb2⟩;(have hX2:Blk w2 w.heap.size 59 #[.string ad,.string cl,.string co,.int .i64 si,.int .i64 lo,.int .i64 hi] (0,0):=(by first | exact Blk.keep hX2 hb2 | exact Blk.keep (World.alloc_heap_new _ _) hb2);have x0:=hX2.cell 0;have x1:=hX2.cell 1;have x2:=hX2.cell 2;have x3:=hX2.cell 3;have x4:=hX2.cell 4;have x5:=hX2.cell 5)) | (go_at_call 101;refine (C2.out _ (Env.keep HE.out belB)).mono ?_;rintro e w2 ⟨rfl,hb2⟩;(have hX2:Blk w2 w.heap.size 59 #[.string ad,.string cl,.string co,.int .i64 si,.int .i64 lo,.int .i64 hi] (0,0):=(by first | exact Blk.keep hX2 hb2 | exact Blk.keep (World.alloc_heap_new _ _) hb2);have x0:=hX2.cell 0;have x1:=hX2.cell 1;have x2:=hX2.cell 2;have x3:=hX2.cell 3;have x4:=hX2.cell 4;have x5:=hX2.cell 5)) | (go_at_call 102;refine (C3.out _).mono ?_;rintro e w2 ⟨rfl,hb2⟩;(have hX2:Blk w2 w.heap.size 59 #[.string ad,.string cl,.string co,.int .i64 si,.int .i64 lo,.int .i64 hi] (0,0):=(by first | exact Blk.keep hX2 hb2 | exact Blk.keep (World.alloc_heap_new _ _) hb2);have x0:=hX2.cell 0;have x1:=hX2.cell 1;have x2:=hX2.cell 2;have x3:=hX2.cell 3;have x4:=hX2.cell 4;have x5:=hX2.cell 5)) | (go_at_call 104;refine (C4.out _).mono ?_;rintro e w2 ⟨rfl,hb2⟩;(have hX2:Blk w2 w.heap.size 59 #[.string ad,.string cl,.string co,.int .i64 si,.int .i64 lo,.int .i64 hi] (0,0):=(by first | exact Blk.keep hX2 hb2 | exact Blk.keep (World.alloc_heap_new _ _) hb2);have x0:=hX2.cell 0;have x1:=hX2.cell 1;have x2:=hX2.cell 2;have x3:=hX2.cell 3;have x4:=hX2.cell 4;have x5:=hX2.cell 5)));go_ret;exact⟨rfl,belB⟩)
 by_cases t3:0≤lo
 rotate_left
 ·obtain rfl:V=false:=by rw[hV2];simp[t3]
  have d3:decide (0≤lo)=false:=decide_eq_false t3
  clear hV2
  (go_enter Tryz.func85,Tryz.ntmps85;go_wp2_with (first | (go_at_call 146;refine (C1.out _ (Env.keep HE.out belB)).mono ?_;rintro e w2 ⟨rfl,hb2⟩;(have hX2:Blk w2 w.heap.size 59 #[.string ad,.string cl,.string co,.int .i64 si,.int .i64 lo,.int .i64 hi] (0,0):=(by first | exact Blk.keep hX2 hb2 | exact Blk.keep (World.alloc_heap_new _ _) hb2);have x0:=hX2.cell 0;have x1:=hX2.cell 1;have x2:=hX2.cell 2;have x3:=hX2.cell 3;have x4:=hX2.cell 4;have x5:=hX2.cell 5)) | (go_at_call 101;refine (C2.out _ (Env.keep HE.out belB)).mono ?_;rintro e w2 ⟨rfl,hb2⟩;(have hX2:Blk w2 w.heap.size 59 #[.string ad,.string cl,.string co,.int .i64 si,.int .i64 lo,.int .i64 hi] (0,0):=(by first | exact Blk.keep hX2 hb2 | exact Blk.keep (World.alloc_heap_new _ _) hb2);have x0:=hX2.cell 0;have x1:=hX2.cell 1;have x2:=hX2.cell 2;have x3:=hX2.cell 3;have x4:=hX2.cell 4;have x5:=hX2.cell 5)) | (go_at_call 102;refine (C3.out _).mono ?_;rintro e w2 ⟨rfl,hb2⟩;(have hX2:Blk w2 w.heap.size 59 #[.string ad,.string cl,.string co,.int .i64 si,.int .i64 lo,.int .i64 hi] (0,0):=(by first | exact Blk.keep hX2 hb2 | exact Blk.keep (World.alloc_heap_new _ _) hb2);have x0:=hX2.cell 0;have x1:=hX2.cell 1;have x2:=hX2.cell 2;have x3:=hX2.cell 3;have x4:=hX2.cell 4;have x5:=hX2.cell 5)) | (go_at_call 104;refine (C4.out _).mono ?_;rintro e w2 ⟨rfl,hb2⟩;(have hX2:Blk w2 w.heap.size 59 #[.string ad,.string cl,.string co,.int .i64 si,.int .i64 lo,.int .i64 hi] (0,0):=(by first | exact Blk.keep hX2 hb2 | exact Blk.keep (World.alloc_heap_new _ _) hb2);have x0:=hX2.cell 0;have x1:=hX2.cell 1;have x2:=hX2.cell 2;have x3:=hX2.cell 3;have x4:=hX2.cell 4;have x5:=hX2.cell 5)));go_ret;exact⟨rfl,belB⟩)
 have d3:decide (0≤lo)=true:=decide_eq_true t3
 by_cases t4:lo≤hi
 rotate_left
 ·obtain rfl:V=false:=by rw[hV2];simp[t4]
  have d4:decide (lo≤hi)=false:=decide_eq_false t4
  clear hV2
  (go_enter Tryz.func85,Tryz.ntmps85;go_wp2_with (first | (go_at_call 146;refine (C1.out _ (Env.keep HE.out belB)).mono ?_;rintro e w2 ⟨rfl,hb2⟩;(have hX2:Blk w2 w.heap.size 59 #[.string ad,.string cl,.string co,.int .i64 si,.int .i64 lo,.int .i64 hi] (0,0):=(by first | exact Blk.keep hX2 hb2 | exact Blk.keep (World.alloc_heap_new _ _) hb2);have x0:=hX2.cell 0;have x1:=hX2.cell 1;have x2:=hX2.cell 2;have x3:=hX2.cell 3;have x4:=hX2.cell 4;have x5:=hX2.cell 5)) | (go_at_call 101;refine (C2.out _ (Env.keep HE.out belB)).mono ?_;rintro e w2 ⟨rfl,hb2⟩;(have hX2:Blk w2 w.heap.size 59 #[.string ad,.string cl,.string co,.int .i64 si,.int .i64 lo,.int .i64 hi] (0,0):=(by first | exact Blk.keep hX2 hb2 | exact Blk.keep (World.alloc_heap_new _ _) hb2);have x0:=hX2.cell 0;have x1:=hX2.cell 1;have x2:=hX2.cell 2;have x3:=hX2.cell 3;have x4:=hX2.cell 4;have x5:=hX2.cell 5)) | (go_at_call 102;refine (C3.out _).mono ?_;rintro e w2 ⟨rfl,hb2⟩;(have hX2:Blk w2 w.heap.size 59 #[.string ad,.string cl,.string co,.int .i64 si,.int .i64 lo,.int .i64 hi] (0,0):=(by first | exact Blk.keep hX2 hb2 | exact Blk.keep (World.alloc_heap_new _ _) hb2);have x0:=hX2.cell 0;have x1:=hX2.cell 1;have x2:=hX2.cell 2;have x3:=hX2.cell 3;have x4:=hX2.cell 4;have x5:=hX2.cell 5)) | (go_at_call 104;refine (C4.out _).mono ?_;rintro e w2 ⟨rfl,hb2⟩;(have hX2:Blk w2 w.heap.size 59 #[.string ad,.string cl,.string co,.int .i64 si,.int .i64 lo,.int .i64 hi] (0,0):=(by first | exact Blk.keep hX2 hb2 | exact Blk.keep (World.alloc_heap_new _ _) hb2);have x0:=hX2.cell 0;have x1:=hX2.cell 1;have x2:=hX2.cell 2;have x3:=hX2.cell 3;have x4:=hX2.cell 4;have x5:=hX2.cell 5)));go_ret;exact⟨rfl,belB⟩)
 have d4:decide (lo≤hi)=true:=decide_eq_true t4
 obtain rfl:V=decide (hi≤1099511627776):=by rw[hV2];simp[t3,t4]
 clear hV2
 (go_enter Tryz.func85,Tryz.ntmps85;go_wp2_with (first | (go_at_call 146;refine (C1.out _ (Env.keep HE.out belB)).mono ?_;rintro e w2 ⟨rfl,hb2⟩;(have hX2:Blk w2 w.heap.size 59 #[.string ad,.string cl,.string co,.int .i64 si,.int .i64 lo,.int .i64 hi] (0,0):=(by first | exact Blk.keep hX2 hb2 | exact Blk.keep (World.alloc_heap_new _ _) hb2);have x0:=hX2.cell 0;have x1:=hX2.cell 1;have x2:=hX2.cell 2;have x3:=hX2.cell 3;have x4:=hX2.cell 4;have x5:=hX2.cell 5)) | (go_at_call 101;refine (C2.out _ (Env.keep HE.out belB)).mono ?_;rintro e w2 ⟨rfl,hb2⟩;(have hX2:Blk w2 w.heap.size 59 #[.string ad,.string cl,.string co,.int .i64 si,.int .i64 lo,.int .i64 hi] (0,0):=(by first | exact Blk.keep hX2 hb2 | exact Blk.keep (World.alloc_heap_new _ _) hb2);have x0:=hX2.cell 0;have x1:=hX2.cell 1;have x2:=hX2.cell 2;have x3:=hX2.cell 3;have x4:=hX2.cell 4;have x5:=hX2.cell 5)) | (go_at_call 102;refine (C3.out _).mono ?_;rintro e w2 ⟨rfl,hb2⟩;(have hX2:Blk w2 w.heap.size 59 #[.string ad,.string cl,.string co,.int .i64 si,.int .i64 lo,.int .i64 hi] (0,0):=(by first | exact Blk.keep hX2 hb2 | exact Blk.keep (World.alloc_heap_new _ _) hb2);have x0:=hX2.cell 0;have x1:=hX2.cell 1;have x2:=hX2.cell 2;have x3:=hX2.cell 3;have x4:=hX2.cell 4;have x5:=hX2.cell 5)) | (go_at_call 104;refine (C4.out _).mono ?_;rintro e w2 ⟨rfl,hb2⟩;(have hX2:Blk w2 w.heap.size 59 #[.string ad,.string cl,.string co,.int .i64 si,.int .i64 lo,.int .i64 hi] (0,0):=(by first | exact Blk.keep hX2 hb2 | exact Blk.keep (World.alloc_heap_new _ _) hb2);have x0:=hX2.cell 0;have x1:=hX2.cell 1;have x2:=hX2.cell 2;have x3:=hX2.cell 3;have x4:=hX2.cell 4;have x5:=hX2.cell 5)));go_ret;exact⟨rfl,belB⟩)
end Go.Proofs.YtlkbkclnbppigaaGreatDoor
