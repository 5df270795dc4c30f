/- Plain: when a condition holds, and what that says of Meet. -/
import Derived.Test.YtlkbkclnbppigaaGreatDoorIZ18
set_option maxHeartbeats 8000000
namespace Go.Proofs.YtlkbkclnbppigaaGreatDoor
open Tryz
open Go.RowKit Go.Sort
set_option linter.unusedVariables false
set_option linter.unusedSimpArgs false
set_option maxRecDepth 100000
structure dN where
 addr:aC
 client:aC
 country:aC
 site:Int
 lo:Int
 hi:Int
def uz(a:dN):Bool:=qJ a.addr&&bU a.client&&iV a.country&&jb a.site&&decide (0<=a.lo/\a.lo<=a.hi/\a.hi<=1099511627776)
def fM(c:aY)(a:dN):Bool:=bF c&&uz a&&decide (c.fr<=a.lo/\a.hi<c.till)&&qO (nN c.pat) a.addr&&bG c.cl a.client&&bG c.co a.country&&bG c.si a.site
theorem IZ(W:World)(t:Nat)(a b:Value)(g:Nat)(hg:g=W.heap.size):(W.alloc (.cells #[a,b] t)).cell? ⟨g,0,none⟩=some a/\(W.alloc (.cells #[a,b] t)).cell? ⟨g,1,none⟩=some b:=by
 exact GU
theorem Ur(fr till us:Int)(pat:aC)(A B S:Option Addr)(na ca nb cb ns cs:Nat)(w:World) :
  Calls prog 87 #[.agg #[.int .i64 fr,.int .i64 till,.string pat,.slice A na ca,.slice B nb cb,.slice S ns cs,.int .i64 us]] w (Ret w (.string (if pat.size=0 then ⟨#[42,47,42,42]⟩ else pat))):=by
 have cO:=xQ;generalize hV:(if pat.size=0 then (⟨#[42,47,42,42]⟩:aC) else pat)=V;have HC:=aA (fun (g c:Nat) (W:World) h0 h1=>hV▸cO g c pat ⟨#[42,47,42,42]⟩ W h0 h1);clear cO hV;go_enter func87,ntmps87;go_wp2_with (go_at_call 108;refine (HC.out _ _ _ (IZ _ _ _ _ _ aH).1 (IZ _ _ _ _ _ aH).2).mono ?_;rintro e w2 ⟨rfl,hb2⟩);go_ret;exact⟨rfl,aJ⟩
theorem Ia(A:Option Addr)(n c:Nat)(xs:List aC)(x:aC)(w:World)(hA:aI w 1 A n (xs.map .string))(hn:n<=1000000000):Calls prog 88 #[.slice A n c,.string x] w (Ret w (.bool (bG xs x))):=by
 have hl:xs.length=n:=jK;rcases Nat.eq_zero_or_pos n with h0 | h0
 ·exact Ib
 ·have he:xs.isEmpty=false:=yJ;obtain⟨b,o,rfl,hc⟩:=hA.2 h0;have cC:=fun (W:World) (hb:aF w W)=>slices_Contains_string b o n c xs x W aB aB (fun j hj=>by
    refine aW hb (hc j _ ?_);rw[List.getElem?_map,List.getElem?_eq_getElem hj];simp[List.getD_eq_getElem?_getD,List.getElem?_eq_getElem hj])
  rw[List.take_of_length_le aB]at cC;have hcs:Lib.containsS xs x=bG xs x:=by
   unfold bG;rw[he,Bool.false_or,Bool.eq_iff_iff,Lib.containsS_iff];simp
  rw[hcs]at cC;have HC:=aA cC;have hn0:((n:Int)==0)=false:=aP;clear cC hc hA hcs he;generalize bG xs x=res at *;go_enter func88,ntmps88;go_wp2_with (go_at_call 150;refine (HC.out _ aJ).mono ?_;rintro e w2 ⟨rfl,rfl⟩);go_ret;exact⟨rfl,aJ⟩
theorem Us(A:Option Addr)(n c:Nat)(xs:List Int)(x:Int)(w:World)(hA:aI w 1 A n (xs.map (.int .i64)))(hn:n<=1000000000):Calls prog 89 #[.slice A n c,.int .i64 x] w (Ret w (.bool (bG xs x))):=by
 have hl:xs.length=n:=jK;rcases Nat.eq_zero_or_pos n with h0 | h0
 ·exact Ic
 ·have he:xs.isEmpty=false:=yJ;obtain⟨b,o,rfl,hc⟩:=hA.2 h0;have cC:=fun (W:World) (hb:aF w W)=>slices_Contains_int b o n c xs x W aB aB (fun j hj=>by
    refine aW hb (hc j _ ?_);rw[List.getElem?_map,List.getElem?_eq_getElem hj];simp[List.getD_eq_getElem?_getD,List.getElem?_eq_getElem hj])
  rw[List.take_of_length_le aB]at cC;have hcs:xs.contains x=bG xs x:=by
   unfold bG;rw[he,Bool.false_or]
  rw[hcs]at cC;have HC:=aA cC;have hn0:((n:Int)==0)=false:=aP;clear cC hc hA he hcs;generalize bG xs x=res at *;go_enter func89,ntmps89;go_wp2_with (go_at_call 151;refine (HC.out _ aJ).mono ?_;rintro e w2 ⟨rfl,rfl⟩);go_ret;exact⟨rfl,aJ⟩
theorem Ut(s:aC)(h:47 ∉ s.data.toList):(dI s).isSome=iT s:=by
 unfold dI;have e:splitB 47 s=[s]:=splitB_miss 47 s (by rw[xN _ _ h];omega);rw[e,BD];cases iT s
 ·rfl
 ·rfl
theorem Uu(s:aC):bU s=(!(s.toList == [42])&&!decide (0<=Lib.indexByte s.data.toList 47)&&(dI s).isSome):=by
 by_cases h:47∈s.data.toList
 ·have h1:bU s=false:=by
   cases hn:bU s
   ·rfl
   ·exact absurd h (rP (nI hn)).1
  have h2:decide (0<=Lib.indexByte s.data.toList 47)=true:=by
   rw[decide_eq_true_eq];rcases Int.lt_or_le (Lib.indexByte s.data.toList 47) 0 with hlt | hle
   ·exact absurd h (RY _ _ hlt)
   ·exact hle
  rw[h1,h2];simp
 ·rw[xN _ _ h,Ut s h];unfold iT;cases hs:(s.toList == [42])
  ·simp
  ·have:bU s=false:=by
    cases hn:bU s
    ·rfl
    ·have:=(rP (nI hn)).2.2.2.2.1;rw[beq_iff_eq,Lib.toList_data]at hs;rw[hs]at this;exact absurd aH this
   rw[this];rfl
theorem Ie(s:aC)(w:World)(hs:s.size<=100000)(hE:Env w):Calls prog 101 #[.string s] w (Ret w (.bool (bU s))):=by
 have HVA:=aA (fun W h=>GI s W hs h);have HE:=aA hE;rw[Uu];clear hE;generalize (dI s).isSome=b at *;generalize hc:decide (0<=Lib.indexByte s.data.toList 47)=cc;have cC:=fun W=>strings_Contains_one s 47 W
 rw[hc]at cC;have HC:=aA cC;clear cC hc;cases h1:(s.toList == [42])
 ·have h1':¬ s.toList=[42]:=by simpa using h1
  cases cc
  ·exact Ig
  ·exact Ig
 ·have h1':s.toList=[42]:=by simpa using h1
  go_enter func101,ntmps101;go_wp2;all_goals (go_ret;exact⟨rfl,aJ⟩)
theorem Uw(x y:Int):decide (x<=y) = !ltI y x:=by
 unfold ltI;rw[Bool.eq_iff_iff];simp
theorem Ux(g:Nat)(eg:∀ args w,(callFunc g args).run prog w=.ok (.enter g args) w)(right:Int->Bool)(A:Option Addr)(n c:Nat)(xs:List Int)(most:Nat)(w:World)
  (hp:∀ x,∀ W,Calls prog g #[.int .i64 x] W (Ret W (.bool (right x)))) (hA:aI w 1 A n (xs.map (.int .i64))) (hn:n<=1000000000) (hm:most<=1000000) :
  Calls prog 103 #[.slice A n c,.int .i64 most,.func (.func g) #[] #[]] w (Ret w (.bool (iU ltI right most xs))):=by
 have hl:xs.length=n:=jK;have HP:=aA hp;have HA:=aA hA;have HL:=aA hl;obtain⟨V,hV⟩:∃ V,V=iU ltI right most xs:=⟨_,rfl⟩;rw[<-hV];have HV:=aA hV;clear hp hA hl hV;go_enter func103,ntmps103;go_wp2;go_loopw [11] (fun i wr=>∃ k:Nat,k<=n/\i=.int .i64 k/\Hid ((List.range k).all (okK ltI right xs)=true)/\aF w wr) (fun i _=>n-(intOf i).toNat)
 case atStart=>exact⟨0,aB,rfl,aA rfl,Below.refl _ _⟩
 case round =>
  obtain⟨k,hk,rfl,HK,hb⟩:=hrel;by_cases hlt:k<n
  ·obtain⟨x,hx⟩:∃ x,xs[k]? = some x:=⟨_,List.getElem?_eq_getElem gV⟩;obtain⟨pb,po,rfl,hcell⟩:=(HA.out.keep hb).2 aB;have hc1:wr.cell? ⟨pb,po+k,none⟩=some (.int .i64 x):=hcell k _ gB;have hc:=fun W=>HP.out x W
   have hok:okK ltI right xs k=(right x&&(k==0||(match xs[k-1]? with
    | none=>true
    | some y=>ltI y x))):=by unfold okK;rw[hx];cases xs[k-1]? <;> rfl
   have hfail:okK ltI right xs k=false->V=false:=fun h=>by rw[HV.out];exact Ih gV h
   cases hr:right x
   ·have hVf:V=false:=hfail (by rw[hok,hr];rfl);rw[hr]at hc;have HC:=aA hc;clear hc hr hok hfail hcell hx;subst hVf;go_wp2_with (go_at_fn g;refine (HC.out _).mono ?_;rintro e w2 ⟨rfl,hb2⟩);go_ret;exact⟨rfl,aJ⟩
   ·rw[hr]at hc;have HC:=aA hc;rcases k with _ | j
    ·have HK2:Hid ((List.range (0+1)).all (okK ltI right xs)=true):=aA (yK HK.out (by rw[hok,hr];rfl));simp only[Nat.add_zero]at hc1;clear hc hr hok hfail hcell hx;go_wp2_with (go_at_fn g;refine (HC.out _).mono ?_;rintro e w2 ⟨rfl,hb2⟩);exact⟨⟨1,aB,bg,HK2,aJ⟩,dD⟩
    ·obtain⟨y,hy⟩:∃ y,xs[j]? = some y:=⟨_,List.getElem?_eq_getElem gV⟩;have hc2:wr.cell? ⟨pb,po+j,none⟩=some (.int .i64 y):=hcell j _ qH;have hle:=Uw x y;rw[Nat.add_sub_cancel,hy]at hok;have hok:okK ltI right xs (j+1)=ltI y x:=by rw[hok,hr];simp
     have hj0:(0:Int)<=(j:Int):=aB;have hj1:(j:Int)<(n:Int):=aB;cases ht:ltI y x
     ·have hVf:V=false:=hfail (by rw[hok,ht]);rw[ht]at hle;clear hc hr hok hfail hcell hx hy;subst hVf;go_wp2_with (go_at_fn g;refine (HC.out _).mono ?_;rintro e w2 ⟨rfl,hb2⟩;have hc3:=aW hb2 hc2);go_ret;exact⟨rfl,aJ⟩
     ·have HK2:Hid ((List.range (j+1+1)).all (okK ltI right xs)=true):=aA (yK HK.out (by rw[hok,ht]));rw[ht]at hle;clear hc hr hok hfail hcell hx hy;go_wp2_with (go_at_fn g;refine (HC.out _).mono ?_;rintro e w2 ⟨rfl,hb2⟩;have hc3:=aW hb2 hc2);exact⟨⟨j+1+1,aB,bg,HK2,aJ⟩,dD⟩
  ·obtain rfl:k=n:=aB;have hv:V=decide (k<=most):=by rw[HV.out];unfold iU;rw[HL.out,HK.out];rfl
   by_cases hm2:k<=most
   ·rw[decide_eq_true hm2]at hv;have d1:decide ((k:Int)<=most)=true:=decide_eq_true aB;subst hv;go_wp2;go_ret;exact⟨rfl,hb⟩
   ·rw[decide_eq_false hm2]at hv;have d1:decide ((k:Int)<=most)=false:=decide_eq_false aB;subst hv;go_wp2;go_ret;exact⟨rfl,hb⟩
def dN.val(a:dN):Value:=.agg #[.string a.addr,.string a.client,.string a.country,.int .i64 a.site,.int .i64 a.lo,.int .i64 a.hi]
def fG(l:List (List UInt8)):Nat:=(dF l).length
theorem qW(x:List UInt8)(l:List (List UInt8)):fG (x :: l)=x.length+1+fG l:=by simp[fG,dF];omega
theorem rq:fG []=0:=rfl
theorem Ii(a b:List (List UInt8)):fG (a++b)=fG a+fG b:=by simp[fG,dF]
theorem BU(c:UInt8):∀ l:List UInt8,fG (dO c l)=l.length+1
 | []=>by simp[dO,qW,rq]
 | b :: l=>by
  have ih:=BU c l;unfold dO;split
  ·rw[qW,ih];simp;omega
  ·cases hs:dO c l with
   | nil=>exact absurd hs (F9 c l)
   | cons p ps =>
    rw[hs,qW]at ih;simp only[qW,List.length_cons];omega
theorem Ij(c:UInt8)(s:aC):az (splitB c s)=dO c s.data.toList:=by
 unfold splitB az;rw[List.map_map]
 conv=>rhs;rw[<-List.map_id (dO c s.data.toList)]
 exact List.map_congr_left fun x _=>rfl
theorem Uy(l:List aC):fG (az l.dropLast)<=fG (az l):=by
 rcases List.eq_nil_or_concat l with rfl | ⟨a,x,rfl⟩
 ·exact Nat.le_refl _
 ·rw[List.concat_eq_append,List.dropLast_concat];unfold az;rw[List.map_append,Ii];omega
theorem Ik:∀(ps out r:List aC),gp out ps=some r->fG (az r)<=fG (az out)+fG (az ps)
 | [],out,r,e=>by simp[gp]at e;subst e;simp[az,rq]
 | p :: ps,out,r,e=>by
  rw[gp]at e;cases hs:kT out p with
  | none=>rw[hs]at e;cases e
  | some o =>
   rw[hs,Option.bind_some]at e;have ih:=Ik ps o r e;have ho:fG (az o)<=fG (az out)+(p.data.toList.length+1):=by
    unfold kT at hs;split at hs
    ·injection hs with hs;subst hs;omega
    ·split at hs
     ·injection hs with hs;subst hs
      have:=Uy out;omega
     ·split at hs
      ·injection hs with hs;subst hs
       unfold az;rw[List.map_append,Ii,List.map_cons,qW];simp[rq]
      ·cases hs
   have hp:fG (az (p :: ps))=p.data.toList.length+1+fG (az ps):=qW _ _;omega
def eu:List (List UInt8 × List UInt8)->Nat
 | []=>0
 | q :: l=>q.1.length+q.2.length+2+eu l
theorem Il:∀(sep:UInt8)(l:List (List UInt8 × List UInt8)),(eQ sep l).length=eu l
 | _,[]=>rfl
 | sep,(k,v) :: l=>by simp[eQ,eu,Il 38 l];omega
theorem Io(p:List UInt8 × List UInt8):∀ l:List (List UInt8 × List UInt8),eu (jG l p)<=eu l+(p.1.length+p.2.length+2)
 | []=>by simp[jG,eu]
 | q :: l=>by
  unfold jG;have ih:=Io p l;split
  ·simp only[eu];omega
  ·split <;> simp only[eu] <;> omega
theorem Ip:∀(l acc:List (List UInt8 × List UInt8)),eu (l.foldl jG acc)<=eu acc+eu l
 | [],acc=>by simp[eu]
 | p :: l,acc=>by
  have h1:=Ip l (jG acc p);have h2:=Io p acc;rw[List.foldl_cons];simp only[eu];omega
theorem Iq:∀(a b:List (List UInt8 × List UInt8)),eu (a++b)=eu a+eu b
 | [],b=>by simp[eu]
 | q :: a,b=>by simp only[List.cons_append,eu,Iq a b];omega
theorem BV(l:List UInt8)(c:UInt8):(Lib.cut l [c]).1.length+(if (Lib.cut l [c]).2.2 then 1+(Lib.cut l [c]).2.1.length else 0)=l.length/\((Lib.cut l [c]).2.2=false->(Lib.cut l [c]).2.1=[]):=by
 by_cases h:c∈l
 ·obtain⟨a,b,rfl,hna⟩:∃ a b,l=a++c :: b/\c ∉ a:=by
   induction l with
   | nil=>simp at h
   | cons x l ih =>
    by_cases e:x=c
    ·subst e;exact⟨[],l,rfl,aH⟩
    ·rcases List.mem_cons.1 h with h | h
     ·exact absurd h.symm e
     ·obtain⟨a,b,h1,h2⟩:=ih h;exact⟨x :: a,b,by rw[h1];rfl,by simp[h2];exact fun e2=>e e2.symm⟩
  rw[RZ a b c hna];simp;omega
 ·rw[Rf l c h];simp
theorem Iu:∀(ps:List aC)(acc r:List (List UInt8 × List UInt8)),gI acc ps=some r->eu r<=eu acc+fG (az ps)
 | [],acc,r,e=>by simp[gI]at e;subst e;simp[az,rq]
 | p :: ps,acc,r,e=>by
  rw[gI]at e;cases hs:ru p with
  | none=>rw[hs]at e;cases e
  | some x =>
   rw[hs]at e;have ih:=Iu ps _ r e;have hx:x.1.length+x.2.length+1=p.data.toList.length:=by
    unfold ru at hs;split at hs
    ·rename_i hc;injection hs with hs
     subst hs;simp only[Bool.and_eq_true]at hc;have:=(BV p.data.toList 61).1;rw[hc.1.1]at this;simp only[if_true]at this;dsimp only;omega
    ·cases hs
   have hp:fG (az (p :: ps))=p.data.toList.length+1+fG (az ps):=qW _ _;rw[Iq]at ih;simp only[eu]at ih;omega
theorem Uz(q:List UInt8)(r:List (aC × aC))(h:lN (toB q)=some r):eu (fO r)<=(if q=[] then 0 else q.length+1):=by
 unfold lN at h;split at h
 ·injection h with h;subst h;simp[fO,eu]
 ·rename_i hne;rw[Lib.toList_data]at hne;have hq:q ≠ []:=fun e=>hne (by rw[e];rfl)
  rw[if_neg hq];obtain⟨acc,ha,rfl⟩:=Option.map_eq_some_iff.1 h;have h1:=Iu _ _ _ ha;rw[Ij,BU]at h1;have h2:=Ip acc [];have h3:fO ((jU acc).map fun q=>(toB q.1,toB q.2))=jU acc:=by
   unfold fO;rw[List.map_map]
   conv=>rhs;rw[<-List.map_id (jU acc)]
   exact List.map_congr_left fun x _=>rfl
  rw[h3];unfold jU;simp only[eu]at h1 h2;have h4:(toB q).data.toList.length=q.length:=rfl;omega
theorem U0(l:List UInt8):(Lib.trimSuffix l [47]).length<=l.length:=Iw l [47]
theorem U1(s:aC)(h:(dB s).2=0):(W06 (dB s).1.cust (dB s).1.path (dB s).1.query).length<=s.size/\s.size<=4096:=by
 unfold dB at h ⊢;split at h
 ·cases h
 ·rename_i hs;rw[if_neg hs];refine⟨?_,aB⟩;have hl0:=BV (iI s.data.toList) 63;have hc0:=BV (Lib.trimSuffix (dR s).1 [47]) 47;have ht:=U0 (dR s).1;have hlow:=Iy s.data.toList;have hp:∀ p,mW (dw s)=some p->fG (az p)<=if (dw s).2.2 then 1+(dw s).2.1.length else 0:=by
   intro p hp;unfold mW at hp;split at hp
   ·rename_i hm;have:=Ik _ _ _ hp;rw[Ij,BU]at this;have e:(toB (dw s).2.1).data.toList.length=(dw s).2.1.length:=rfl;simp only[az,List.map_nil,rq]at this;rw[if_pos hm];unfold az;omega
   ·injection hp with hp;subst hp;simp[az,rq]
  have hq:=fun r h=>Uz (dR s).2.1 r h
  rw[jY,<-hlow];change (dR s).1.length+(if (dR s).2.2 then 1+(dR s).2.1.length else 0)=_/\_ at hl0;change (dw s).1.length+(if (dw s).2.2 then 1+(dw s).2.1.length else 0)=_/\_ at hc0;generalize mW (dw s)=rr at *;generalize lN (toB (dR s).2.1)=qq at *;generalize bU (toB (dw s).1)=nm at *;unfold pI at h ⊢;split at h
  ·split at h
   ·rename_i hl;rw[if_pos hl];dsimp only;have h1:=hp _ rfl;have h2:=hq _ rfl;unfold W06 kU;rw[List.length_append,List.length_append,Il];have e1:(toB (dw s).1).data.toList.length=(dw s).1.length:=rfl;unfold fG at h1;have h3:(if (dR s).2.1=[] then 0 else (dR s).2.1.length+1)<=if (dR s).2.2 then 1+(dR s).2.1.length else 0:=by
     split
     ·omega
     ·rename_i hne;cases hb:(dR s).2.2
      ·exact absurd (hl0.2 hb) hne
      ·simp;omega
    omega
   ·cases h
  ·cases h
theorem U2(s:aC):∃(t:aC)(f:Int),uY s=.tuple #[.string t,.int .i64 f]/\qJ s=(decide (f=0)&&(t.toList==s.toList)):=by
 unfold uY qJ;by_cases h:(dB s).2=0
 ·have hg:=Ai s h;have hsh:=U1 s h;have hf:nO (dB s).1.cust (dB s).1.path (dB s).1.query=true:=(UN _ _ _).2 ⟨hg,aB⟩;rw[if_pos h];unfold iR;rw[if_pos hf,decide_eq_true h];exact⟨_,0,rfl,rfl⟩
 ·rw[if_neg h];refine⟨_,_,rfl,?_⟩;rw[decide_eq_false h];rfl
theorem U3(a:dN)(w:World)(h1:a.addr.size<=100000)(h2:a.client.size<=100000)(h3:a.country.size<=100000)(hE:Env w):Calls prog 85 #[dN.val a] w (Ret w (.bool (uz a))):=by
 obtain⟨ad,cl,co,si,lo,hi⟩:=a;dsimp only at h1 h2 h3;unfold dN.val;dsimp only;obtain⟨V,hV⟩:∃ V,V=uz ⟨ad,cl,co,si,lo,hi⟩:=⟨_,rfl⟩;rw[<-hV];unfold uz at hV;dsimp only at hV;obtain⟨t,f,hcs,hrb⟩:=U2 ad;have c1:=fun W h=>RI ad W aB h
 have c2:=fun W h=>Ie cl W h2 h
 have c3:=fun W=>Iz co W aB
 have c4:=fun W=>I4 si W
 rw[hcs]at c1;rw[hrb]at hV;clear hcs hrb;generalize bU cl=b2 at *;generalize iV co=b3 at *;generalize jb si=b4 at *;have C1:=aA c1;have C2:=aA c2;have C3:=aA c3;have C4:=aA c4;have HE:=aA hE;clear c1 c2 c3 c4 hE h1 h2 h3;by_cases t1:f=0;rotate_left
 ·obtain rfl:V=false:=by rw[hV];simp[t1]
  have d1:(f==0)=false:=by simpa using t1
  clear hV;exact ry
 subst t1;have hV2:V=((t.toList==ad.toList)&&b2&&b3&&b4&&decide (0<=lo/\lo<=hi/\hi<=1099511627776)):=by rw[hV];rfl
 clear hV;cases t2:(t.toList==ad.toList)
 ·obtain rfl:V=false:=by rw[hV2,t2];rfl
  clear hV2;exact ry
 rw[t2]at hV2;cases b2
 ·exact BX
 cases b3
 ·exact BX
 cases b4
 ·exact BX
 by_cases t3:0<=lo;rotate_left
 ·obtain rfl:V=false:=by rw[hV2];simp[t3]
  have d3:decide (0<=lo)=false:=decide_eq_false t3;clear hV2;exact ry
 have d3:decide (0<=lo)=true:=decide_eq_true t3;by_cases t4:lo<=hi;rotate_left
 ·obtain rfl:V=false:=by rw[hV2];simp[t4]
  have d4:decide (lo<=hi)=false:=decide_eq_false t4;clear hV2;exact ry
 have d4:decide (lo<=hi)=true:=decide_eq_true t4;obtain rfl:V=decide (hi<=1099511627776):=by rw[hV2];simp[t3,t4]
 clear hV2;exact ry
end Go.Proofs.YtlkbkclnbppigaaGreatDoor
