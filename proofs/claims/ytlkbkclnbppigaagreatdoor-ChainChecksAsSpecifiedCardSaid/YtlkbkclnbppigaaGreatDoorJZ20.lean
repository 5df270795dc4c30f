/- Plain: when a condition holds, and what that says of Meet. -/
import Derived.Test.YtlkbkclnbppigaaGreatDoorJZ18
set_option maxHeartbeats 8000000
namespace Go.Proofs.YtlkbkclnbppigaaGreatDoor
open Tryz
open Go.RowKit Go.Sort
set_option linter.unusedVariables false
set_option linter.unusedSimpArgs false
set_option maxRecDepth 100000
structure bn where
 addr:ByteArray
 client:ByteArray
 country:ByteArray
 site:Int
 lo:Int
 hi:Int
def nC(a:bn):Bool:=iK a.addr&&bI a.client&&dm a.country&&ed a.site&&decide (0<=a.lo/\a.lo<=a.hi/\a.hi<=1099511627776)
def fH(c:aZ)(a:bn):Bool:=bG c&&nC a&&decide (c.fr<=a.lo/\a.hi<c.till)&&kw (lD c.pat) a.addr&&bM c.cl a.client&&bM c.co a.country&&bM c.si a.site
theorem Oi(W:World)(t:Nat)(a b:Value)(g:Nat)(hg:g=W.heap.size):(W.alloc (.cells #[a,b] t)).cell? ⟨g,0,none⟩=some a/\(W.alloc (.cells #[a,b] t)).cell? ⟨g,1,none⟩=some b:=by
 exact MM
theorem aBc(fr till us:Int)(pat:ByteArray)(A B S:Option Addr)(na ca nb cb ns cs:Nat)(w:World) :
  Calls prog 87 #[.agg #[.int .i64 fr,.int .i64 till,.string pat,.slice A na ca,.slice B nb cb,.slice S ns cs,.int .i64 us]] w (Ret w (.string (if pat.size=0 then ⟨#[42,47,42,42]⟩ else pat))):=by
 have cO:=BC;generalize hV:(if pat.size=0 then (⟨#[42,47,42,42]⟩:ByteArray) else pat)=V;have HC:=aB (fun (g c:Nat) (W:World) h0 h1=>hV▸cO g c pat ⟨#[42,47,42,42]⟩ W h0 h1);clear cO hV;go_enter func87,ntmps87;go_wp2_with (go_at_call 108;refine (HC.out _ _ _ (Oi _ _ _ _ _ aF).1 (Oi _ _ _ _ _ aF).2).mono ?_;rintro e w2 ⟨rfl,hb2⟩);go_ret;exact⟨rfl,aG⟩
theorem Oj(A:Option Addr)(n c:Nat)(xs:List ByteArray)(x:ByteArray)(w:World)(hA:aH w 1 A n (xs.map .string))(hn:n<=1000000000):Calls prog 88 #[.slice A n c,.string x] w (Ret w (.bool (bM xs x))):=by
 have hl:xs.length=n:=iY;rcases Nat.eq_zero_or_pos n with h0 | h0
 ·exact Ol
 ·have he:xs.isEmpty=false:=Bj;obtain⟨b,o,rfl,hc⟩:=hA.2 h0;have cC:=fun (W:World) (hb:Below w.heap.size w W)=>slices_Contains_string b o n c xs x W aA aA (fun j hj=>by
    refine aP hb (hc j _ ?_);rw[List.getElem?_map,List.getElem?_eq_getElem hj];simp[List.getD_eq_getElem?_getD,List.getElem?_eq_getElem hj])
  rw[List.take_of_length_le aA]at cC;have hcs:Lib.containsS xs x=bM xs x:=by
   unfold bM;rw[he,Bool.false_or,Bool.eq_iff_iff,Lib.containsS_iff];simp
  rw[hcs]at cC;have HC:=aB cC;have hn0:((n:Int)==0)=false:=aJ;clear cC hc hA hcs he;generalize bM xs x=res at *;go_enter func88,ntmps88;go_wp2_with (go_at_call 150;refine (HC.out _ aG).mono ?_;rintro e w2 ⟨rfl,rfl⟩);go_ret;exact⟨rfl,aG⟩
theorem aBd(A:Option Addr)(n c:Nat)(xs:List Int)(x:Int)(w:World)(hA:aH w 1 A n (xs.map (.int .i64)))(hn:n<=1000000000):Calls prog 89 #[.slice A n c,.int .i64 x] w (Ret w (.bool (bM xs x))):=by
 have hl:xs.length=n:=iY;rcases Nat.eq_zero_or_pos n with h0 | h0
 ·exact Om
 ·have he:xs.isEmpty=false:=Bj;obtain⟨b,o,rfl,hc⟩:=hA.2 h0;have cC:=fun (W:World) (hb:Below w.heap.size w W)=>slices_Contains_int b o n c xs x W aA aA (fun j hj=>by
    refine aP hb (hc j _ ?_);rw[List.getElem?_map,List.getElem?_eq_getElem hj];simp[List.getD_eq_getElem?_getD,List.getElem?_eq_getElem hj])
  rw[List.take_of_length_le aA]at cC;have hcs:xs.contains x=bM xs x:=by
   unfold bM;rw[he,Bool.false_or]
  rw[hcs]at cC;have HC:=aB cC;have hn0:((n:Int)==0)=false:=aJ;clear cC hc hA he hcs;generalize bM xs x=res at *;go_enter func89,ntmps89;go_wp2_with (go_at_call 151;refine (HC.out _ aG).mono ?_;rintro e w2 ⟨rfl,rfl⟩);go_ret;exact⟨rfl,aG⟩
theorem aBe(s:ByteArray)(h:47 ∉ s.data.toList):(dF s).isSome=iM s:=by
 unfold dF;have e:splitB 47 s=[s]:=splitB_miss 47 s (by rw[Aw _ _ h];omega);rw[e,Bc];cases iM s
 ·rfl
 ·rfl
theorem aBf(s:ByteArray):bI s=(!(s.toList == [42])&&!decide (0<=Lib.indexByte s.data.toList 47)&&(dF s).isSome):=by
 by_cases h:47∈s.data.toList
 ·have h1:bI s=false:=by
   cases hn:bI s
   ·rfl
   ·exact absurd h (rH (oW hn)).1
  have h2:decide (0<=Lib.indexByte s.data.toList 47)=true:=by
   rw[decide_eq_true_eq];rcases Int.lt_or_le (Lib.indexByte s.data.toList 47) 0 with hlt | hle
   ·exact absurd h (Yx _ _ hlt)
   ·exact hle
  rw[h1,h2];simp
 ·rw[Aw _ _ h,aBe s h];unfold iM;cases hs:(s.toList == [42])
  ·simp
  ·have:bI s=false:=by
    cases hn:bI s
    ·rfl
    ·have:=(rH (oW hn)).2.2.2.2.1;rw[beq_iff_eq,Lib.toList_data]at hs;rw[hs]at this;exact absurd aF this
   rw[this];rfl
theorem Oo(s:ByteArray)(w:World)(hs:s.size<=100000)(hE:Env w):Calls prog 101 #[.string s] w (Ret w (.bool (bI s))):=by
 have HVA:=aB (fun W h=>MH s W hs h);have HE:=aB hE;rw[aBf];clear hE;generalize (dF s).isSome=b at *;generalize hc:decide (0<=Lib.indexByte s.data.toList 47)=cc;have cC:=fun W=>strings_Contains_one s 47 W
 rw[hc]at cC;have HC:=aB cC;clear cC hc;cases h1:(s.toList == [42])
 ·have h1':¬ s.toList=[42]:=by simpa using h1
  cases cc
  ·exact Oq
  ·exact Oq
 ·have h1':s.toList=[42]:=by simpa using h1
  go_enter func101,ntmps101;go_wp2;all_goals (go_ret;exact⟨rfl,aG⟩)
theorem Ot(x y:Int):decide (x<=y) = !ltI y x:=by
 unfold ltI;rw[Bool.eq_iff_iff];simp
theorem aBg(g:Nat)(eg:∀ args w,(callFunc g args).run prog w=.ok (.enter g args) w)(right:Int->Bool)(A:Option Addr)(n c:Nat)(xs:List Int)(most:Nat)(w:World)
  (hp:∀ x,∀ W,Calls prog g #[.int .i64 x] W (Ret W (.bool (right x)))) (hA:aH w 1 A n (xs.map (.int .i64))) (hn:n<=1000000000) (hm:most<=1000000) :
  Calls prog 103 #[.slice A n c,.int .i64 most,.func (.func g) #[] #[]] w (Ret w (.bool (iZ ltI right most xs))):=by
 have hl:xs.length=n:=iY;have HP:=aB hp;have HA:=aB hA;have HL:=aB hl;obtain⟨V,hV⟩:∃ V,V=iZ ltI right most xs:=⟨_,rfl⟩;rw[<-hV];have HV:=aB hV;clear hp hA hl hV;go_enter func103,ntmps103;go_wp2;go_loopw [11] (fun i wr=>∃ k:Nat,k<=n/\i=.int .i64 k/\Hid ((List.range k).all (okK ltI right xs)=true)/\Below w.heap.size w wr) (fun i _=>n-(intOf i).toNat)
 case atStart=>exact⟨0,aA,rfl,aB rfl,Below.refl _ _⟩
 case round =>
  obtain⟨k,hk,rfl,HK,hb⟩:=hrel;by_cases hlt:k<n
  ·obtain⟨x,hx⟩:∃ x,xs[k]? = some x:=⟨_,List.getElem?_eq_getElem dR⟩;obtain⟨pb,po,rfl,hcell⟩:=(HA.out.keep hb).2 aA;have hc1:wr.cell? ⟨pb,po+k,none⟩=some (.int .i64 x):=hcell k _ dL;have hc:=fun W=>HP.out x W
   have hok:okK ltI right xs k=(right x&&(k==0||(match xs[k-1]? with
    | none=>true
    | some y=>ltI y x))):=by unfold okK;rw[hx];cases xs[k-1]? <;> rfl
   have hfail:okK ltI right xs k=false->V=false:=fun h=>by rw[HV.out];exact Ou dR h
   cases hr:right x
   ·have hVf:V=false:=hfail (by rw[hok,hr];rfl);rw[hr]at hc;have HC:=aB hc;clear hc hr hok hfail hcell hx;subst hVf;go_wp2_with (go_at_fn g;refine (HC.out _).mono ?_;rintro e w2 ⟨rfl,hb2⟩);go_ret;exact⟨rfl,aG⟩
   ·rw[hr]at hc;have HC:=aB hc;rcases k with _ | j
    ·have HK2:Hid ((List.range (0+1)).all (okK ltI right xs)=true):=aB (uK HK.out (by rw[hok,hr];rfl));simp only[Nat.add_zero]at hc1;clear hc hr hok hfail hcell hx;go_wp2_with (go_at_fn g;refine (HC.out _).mono ?_;rintro e w2 ⟨rfl,hb2⟩);exact⟨⟨1,aA,aj,HK2,aG⟩,au⟩
    ·obtain⟨y,hy⟩:∃ y,xs[j]? = some y:=⟨_,List.getElem?_eq_getElem dR⟩;have hc2:wr.cell? ⟨pb,po+j,none⟩=some (.int .i64 y):=hcell j _ pg;have hle:=Ot x y;rw[Nat.add_sub_cancel,hy]at hok;have hok:okK ltI right xs (j+1)=ltI y x:=by rw[hok,hr];simp
     have hj0:(0:Int)<=(j:Int):=aA;have hj1:(j:Int)<(n:Int):=aA;cases ht:ltI y x
     ·have hVf:V=false:=hfail (by rw[hok,ht]);rw[ht]at hle;clear hc hr hok hfail hcell hx hy;subst hVf;go_wp2_with (go_at_fn g;refine (HC.out _).mono ?_;rintro e w2 ⟨rfl,hb2⟩;have hc3:=aP hb2 hc2);go_ret;exact⟨rfl,aG⟩
     ·have HK2:Hid ((List.range (j+1+1)).all (okK ltI right xs)=true):=aB (uK HK.out (by rw[hok,ht]));rw[ht]at hle;clear hc hr hok hfail hcell hx hy;go_wp2_with (go_at_fn g;refine (HC.out _).mono ?_;rintro e w2 ⟨rfl,hb2⟩;have hc3:=aP hb2 hc2);exact⟨⟨j+1+1,aA,aj,HK2,aG⟩,au⟩
  ·obtain rfl:k=n:=aA;have hv:V=decide (k<=most):=by rw[HV.out];unfold iZ;rw[HL.out,HK.out];rfl
   by_cases hm2:k<=most
   ·rw[decide_eq_true hm2]at hv;have d1:decide ((k:Int)<=most)=true:=decide_eq_true aA;subst hv;go_wp2;go_ret;exact⟨rfl,hb⟩
   ·rw[decide_eq_false hm2]at hv;have d1:decide ((k:Int)<=most)=false:=decide_eq_false aA;subst hv;go_wp2;go_ret;exact⟨rfl,hb⟩
def bn.val(a:bn):Value:=.agg #[.string a.addr,.string a.client,.string a.country,.int .i64 a.site,.int .i64 a.lo,.int .i64 a.hi]
def gZ(l:List (List UInt8)):Nat:=(dO l).length
theorem uM(x:List UInt8)(l:List (List UInt8)):gZ (x :: l)=x.length+1+gZ l:=by simp[gZ,dO];omega
theorem vY:gZ []=0:=rfl
theorem Ov(a b:List (List UInt8)):gZ (a++b)=gZ a+gZ b:=by simp[gZ,dO]
theorem GR(c:UInt8):∀ l:List UInt8,gZ (dJ c l)=l.length+1
 | []=>by simp[dJ,uM,vY]
 | b :: l=>by
  have ih:=GR c l;unfold dJ;split
  ·rw[uM,ih];simp;omega
  ·cases hs:dJ c l with
   | nil=>exact absurd hs (OM c l)
   | cons p ps =>
    rw[hs,uM]at ih;simp only[uM,List.length_cons];omega
theorem Ox(c:UInt8)(s:ByteArray):bD (splitB c s)=dJ c s.data.toList:=by
 unfold splitB bD;rw[List.map_map]
 conv=>rhs;rw[<-List.map_id (dJ c s.data.toList)]
 exact List.map_congr_left fun x _=>rfl
theorem aBh(l:List ByteArray):gZ (bD l.dropLast)<=gZ (bD l):=by
 rcases List.eq_nil_or_concat l with rfl | ⟨a,x,rfl⟩
 ·exact Nat.le_refl _
 ·rw[List.concat_eq_append,List.dropLast_concat];unfold bD;rw[List.map_append,Ov];omega
theorem Oy:∀(ps out r:List ByteArray),eF out ps=some r->gZ (bD r)<=gZ (bD out)+gZ (bD ps)
 | [],out,r,e=>by simp[eF]at e;subst e;simp[bD,vY]
 | p :: ps,out,r,e=>by
  rw[eF]at e;cases hs:ik out p with
  | none=>rw[hs]at e;cases e
  | some o =>
   rw[hs,Option.bind_some]at e;have ih:=Oy ps o r e;have ho:gZ (bD o)<=gZ (bD out)+(p.data.toList.length+1):=by
    unfold ik at hs;split at hs
    ·injection hs with hs;subst hs;omega
    ·split at hs
     ·injection hs with hs;subst hs
      have:=aBh out;omega
     ·split at hs
      ·injection hs with hs;subst hs
       unfold bD;rw[List.map_append,Ov,List.map_cons,uM];simp[vY]
      ·cases hs
   have hp:gZ (bD (p :: ps))=p.data.toList.length+1+gZ (bD ps):=uM _ _;omega
def gQ:List (List UInt8 × List UInt8)->Nat
 | []=>0
 | q :: l=>q.1.length+q.2.length+2+gQ l
theorem Oz:∀(sep:UInt8)(l:List (List UInt8 × List UInt8)),(gB sep l).length=gQ l
 | _,[]=>rfl
 | sep,(k,v) :: l=>by simp[gB,gQ,Oz 38 l];omega
theorem O0(p:List UInt8 × List UInt8):∀ l:List (List UInt8 × List UInt8),gQ (jD l p)<=gQ l+(p.1.length+p.2.length+2)
 | []=>by simp[jD,gQ]
 | q :: l=>by
  unfold jD;have ih:=O0 p l;split
  ·simp only[gQ];omega
  ·split <;> simp only[gQ] <;> omega
theorem O1:∀(l acc:List (List UInt8 × List UInt8)),gQ (l.foldl jD acc)<=gQ acc+gQ l
 | [],acc=>by simp[gQ]
 | p :: l,acc=>by
  have h1:=O1 l (jD acc p);have h2:=O0 p acc;rw[List.foldl_cons];simp only[gQ];omega
theorem O3:∀(a b:List (List UInt8 × List UInt8)),gQ (a++b)=gQ a+gQ b
 | [],b=>by simp[gQ]
 | q :: a,b=>by simp only[List.cons_append,gQ,O3 a b];omega
theorem GU(l:List UInt8)(c:UInt8):(Lib.cut l [c]).1.length+(if (Lib.cut l [c]).2.2 then 1+(Lib.cut l [c]).2.1.length else 0)=l.length/\((Lib.cut l [c]).2.2=false->(Lib.cut l [c]).2.1=[]):=by
 by_cases h:c∈l
 ·obtain⟨a,b,rfl,hna⟩:∃ a b,l=a++c :: b/\c ∉ a:=by
   induction l with
   | nil=>simp at h
   | cons x l ih =>
    by_cases e:x=c
    ·subst e;exact⟨[],l,rfl,aF⟩
    ·rcases List.mem_cons.1 h with h | h
     ·exact absurd h.symm e
     ·obtain⟨a,b,h1,h2⟩:=ih h;exact⟨x :: a,b,by rw[h1];rfl,by simp[h2];exact fun e2=>e e2.symm⟩
  rw[Ep a b c hna];simp;omega
 ·rw[Es l c h];simp
theorem O4:∀(ps:List ByteArray)(acc r:List (List UInt8 × List UInt8)),gp acc ps=some r->gQ r<=gQ acc+gZ (bD ps)
 | [],acc,r,e=>by simp[gp]at e;subst e;simp[bD,vY]
 | p :: ps,acc,r,e=>by
  rw[gp]at e;cases hs:qJ p with
  | none=>rw[hs]at e;cases e
  | some x =>
   rw[hs]at e;have ih:=O4 ps _ r e;have hx:x.1.length+x.2.length+1=p.data.toList.length:=by
    unfold qJ at hs;split at hs
    ·rename_i hc;injection hs with hs
     subst hs;simp only[Bool.and_eq_true]at hc;have:=(GU p.data.toList 61).1;rw[hc.1.1]at this;simp only[if_true]at this;dsimp only;omega
    ·cases hs
   have hp:gZ (bD (p :: ps))=p.data.toList.length+1+gZ (bD ps):=uM _ _;rw[O3]at ih;simp only[gQ]at ih;omega
theorem aBi(q:List UInt8)(r:List (ByteArray × ByteArray))(h:kN (toB q)=some r):gQ (dW r)<=(if q=[] then 0 else q.length+1):=by
 unfold kN at h;split at h
 ·injection h with h;subst h;simp[dW,gQ]
 ·rename_i hne;rw[Lib.toList_data]at hne;have hq:q ≠ []:=fun e=>hne tC
  rw[if_neg hq];obtain⟨acc,ha,rfl⟩:=Option.map_eq_some_iff.1 h;have h1:=O4 _ _ _ ha;rw[Ox,GR]at h1;have h2:=O1 acc [];have h3:dW ((iW acc).map fun q=>(toB q.1,toB q.2))=iW acc:=by
   unfold dW;rw[List.map_map]
   conv=>rhs;rw[<-List.map_id (iW acc)]
   exact List.map_congr_left fun x _=>rfl
  rw[h3];unfold iW;simp only[gQ]at h1 h2;have h4:(toB q).data.toList.length=q.length:=rfl;omega
theorem aBj(l:List UInt8):(Lib.trimSuffix l [47]).length<=l.length:=GV l [47]
theorem O5(s:ByteArray)(h:(bU s).2=0):(W06 (bU s).1.cust (bU s).1.path (bU s).1.query).length<=s.size/\s.size<=4096:=by
 unfold bU at h ⊢;split at h
 ·cases h
 ·rename_i hs;rw[if_neg hs];refine⟨?_,aA⟩;have hl0:=GU (gz s.data.toList) 63;have hc0:=GU (Lib.trimSuffix (bu s).1 [47]) 47;have ht:=aBj (bu s).1;have hlow:=GX s.data.toList;have hp:∀ p,lV (dY s)=some p->gZ (bD p)<=if (dY s).2.2 then 1+(dY s).2.1.length else 0:=by
   intro p hp;unfold lV at hp;split at hp
   ·rename_i hm;have:=Oy _ _ _ hp;rw[Ox,GR]at this;have e:(toB (dY s).2.1).data.toList.length=(dY s).2.1.length:=rfl;simp only[bD,List.map_nil,vY]at this;rw[if_pos hm];unfold bD;omega
   ·injection hp with hp;subst hp;simp[bD,vY]
  have hq:=fun r h=>aBi (bu s).2.1 r h
  rw[iL,<-hlow];change (bu s).1.length+(if (bu s).2.2 then 1+(bu s).2.1.length else 0)=_/\_ at hl0;change (dY s).1.length+(if (dY s).2.2 then 1+(dY s).2.1.length else 0)=_/\_ at hc0;generalize lV (dY s)=rr at *;generalize kN (toB (bu s).2.1)=qq at *;generalize bI (toB (dY s).1)=nm at *;unfold pI at h ⊢;split at h
  ·split at h
   ·rename_i hl;rw[if_pos hl];dsimp only;have h1:=hp _ rfl;have h2:=hq _ rfl;unfold W06 lW;rw[List.length_append,List.length_append,Oz];have e1:(toB (dY s).1).data.toList.length=(dY s).1.length:=rfl;unfold gZ at h1;have h3:(if (bu s).2.1=[] then 0 else (bu s).2.1.length+1)<=if (bu s).2.2 then 1+(bu s).2.1.length else 0:=by
     split
     ·omega
     ·rename_i hne;cases hb:(bu s).2.2
      ·exact absurd (hl0.2 hb) hne
      ·simp;omega
    omega
   ·cases h
  ·cases h
theorem aBk(s:ByteArray):∃(t:ByteArray)(f:Int),yC s=.tuple #[.string t,.int .i64 f]/\iK s=(decide (f=0)&&(t.toList==s.toList)):=by
 unfold yC iK;by_cases h:(bU s).2=0
 ·have hg:=yP s h;have hsh:=O5 s h;have hf:kM (bU s).1.cust (bU s).1.path (bU s).1.query=true:=(OG _ _ _).2 ⟨hg,aA⟩;rw[if_pos h];unfold jd;rw[if_pos hf,decide_eq_true h];exact⟨_,0,rfl,rfl⟩
 ·rw[if_neg h];refine⟨_,_,rfl,?_⟩;rw[decide_eq_false h];rfl
theorem aBl(a:bn)(w:World)(h1:a.addr.size<=100000)(h2:a.client.size<=100000)(h3:a.country.size<=100000)(hE:Env w):Calls prog 85 #[bn.val a] w (Ret w (.bool (nC a))):=by
 obtain⟨ad,cl,co,si,lo,hi⟩:=a;dsimp only at h1 h2 h3;unfold bn.val;dsimp only;obtain⟨V,hV⟩:∃ V,V=nC ⟨ad,cl,co,si,lo,hi⟩:=⟨_,rfl⟩;rw[<-hV];unfold nC at hV;dsimp only at hV;obtain⟨t,f,hcs,hrb⟩:=aBk ad;have c1:=fun W h=>Ym ad W aA h
 have c2:=fun W h=>Oo cl W h2 h
 have c3:=fun W=>O6 co W aA
 have c4:=fun W=>O7 si W
 rw[hcs]at c1;rw[hrb]at hV;clear hcs hrb;generalize bI cl=b2 at *;generalize dm co=b3 at *;generalize ed si=b4 at *;have C1:=aB c1;have C2:=aB c2;have C3:=aB c3;have C4:=aB c4;have HE:=aB hE;clear c1 c2 c3 c4 hE h1 h2 h3;by_cases t1:f=0;rotate_left
 ·obtain rfl:V=false:=yu;have d1:(f==0)=false:=by simpa using t1
  clear hV;exact vZ
 subst t1;have hV2:V=((t.toList==ad.toList)&&b2&&b3&&b4&&decide (0<=lo/\lo<=hi/\hi<=1099511627776)):=by rw[hV];rfl
 clear hV;cases t2:(t.toList==ad.toList)
 ·obtain rfl:V=false:=by rw[hV2,t2];rfl
  clear hV2;exact vZ
 rw[t2]at hV2;cases b2
 ·exact GY
 cases b3
 ·exact GY
 cases b4
 ·exact GY
 by_cases t3:0<=lo;rotate_left
 ·obtain rfl:V=false:=by rw[hV2];simp[t3]
  have d3:decide (0<=lo)=false:=decide_eq_false t3;clear hV2;exact vZ
 have d3:decide (0<=lo)=true:=decide_eq_true t3;by_cases t4:lo<=hi;rotate_left
 ·obtain rfl:V=false:=by rw[hV2];simp[t4]
  have d4:decide (lo<=hi)=false:=decide_eq_false t4;clear hV2;exact vZ
 have d4:decide (lo<=hi)=true:=decide_eq_true t4;obtain rfl:V=decide (hi<=1099511627776):=by rw[hV2];simp[t3,t4]
 clear hV2;exact vZ
end Go.Proofs.YtlkbkclnbppigaaGreatDoor
