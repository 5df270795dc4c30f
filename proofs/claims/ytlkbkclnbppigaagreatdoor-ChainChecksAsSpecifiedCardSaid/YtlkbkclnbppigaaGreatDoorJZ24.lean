/- Plain: what the policy package says of a rule, a stamp and a period. -/
import Derived.Test.YtlkbkclnbppigaaGreatDoorJZ15
import Derived.Test.YtlkbkclnbppigaaGreatDoorJZ22
import Derived.Laws.EntriesVeiled
namespace Go.Proofs.YtlkbkclnbppigaaGreatDoor
open Tryz
open Go.RowKit Go.Sort
set_option linter.unusedVariables false
set_option linter.unusedSimpArgs false
set_option maxRecDepth 100000
structure D16 where
 (a0 a1 a2 a3 a4 a5 a6 a7 a8 a9 a10 a11 a12 a13 a14 a15:Int)
structure Bl where
 addr:ByteArray
 variant:ByteArray
 status:Int
 size:Int
 body:D16
 tags:ByteArray
 lo:Int
 hi:Int
 gate:Int
 serial:Int
 seal_:D16
def Bl.cells(s:Bl):List Value:=[.string s.addr,.string s.variant,.int .i64 s.status,.int .i64 s.size,
 .int .u8 s.body.a0,.int .u8 s.body.a1,.int .u8 s.body.a2,.int .u8 s.body.a3,.int .u8 s.body.a4,.int .u8 s.body.a5,.int .u8 s.body.a6,.int .u8 s.body.a7,.int .u8 s.body.a8,.int .u8 s.body.a9,.int .u8 s.body.a10,.int .u8 s.body.a11,.int .u8 s.body.a12,.int .u8 s.body.a13,.int .u8 s.body.a14,.int .u8 s.body.a15,
 .string s.tags,.int .i64 s.lo,.int .i64 s.hi,.int .i64 s.gate,.int .i64 s.serial,
 .int .u8 s.seal_.a0,.int .u8 s.seal_.a1,.int .u8 s.seal_.a2,.int .u8 s.seal_.a3,.int .u8 s.seal_.a4,.int .u8 s.seal_.a5,.int .u8 s.seal_.a6,.int .u8 s.seal_.a7,.int .u8 s.seal_.a8,.int .u8 s.seal_.a9,.int .u8 s.seal_.a10,.int .u8 s.seal_.a11,.int .u8 s.seal_.a12,.int .u8 s.seal_.a13,.int .u8 s.seal_.a14,.int .u8 s.seal_.a15]
def Bl.val(s:Bl):Value:=.agg s.cells.toArray
open Go.Maps
def jF(lo hi:Int):Value:=.agg #[.int .i64 lo,.int .i64 hi]
end Go.Proofs.YtlkbkclnbppigaaGreatDoor
namespace Go.Proofs.YtlkbkclnbppigaaGreatDoor
open Tryz
open Go.RowKit Go.Sort
set_option linter.unusedVariables false
set_option linter.unusedSimpArgs false
set_option maxRecDepth 100000
def Bo(d:UInt8)(xs:List ByteArray):ByteArray:=⟨(Lib.join (xs.map (·.data.toList)) [d]).toArray⟩
theorem aCk(d:UInt8)(A:Option Addr)(n c:Nat)(ws:List ByteArray)(W:World)(base:Nat)(hown:W.ownsRow base 9 1 (.slice A n c) n (ws.map .string))(hlen:(Lib.join (ws.map (·.data.toList)) [d]).length<=140737488355328)(hn:n<=1000000) :
  Calls prog 72 #[.slice A n c,.string ⟨#[d]⟩] W (Ret W (.string (Bo d ws))):=by
 have hl:ws.length=n:=FH;rcases hown.2 with ⟨h,h0⟩ | ⟨g',cap,cur,he,hb,hh,h1,h2,h3,h4⟩
 ·injection h with e1 e2 e3
  subst e1;subst h0;obtain rfl:ws=[]:=List.eq_nil_of_length_eq_zero hl;refine (strings_Join_none none c ⟨#[d]⟩ W).mono fun e w' ⟨h5,h6⟩=>⟨?_,by rw[h6];exact Below.refl _ _⟩
  rw[h5];rfl
 ·injection he with e1 e2 e3
  subst e1;subst e3;have hcells:=World.ownsRow.cells hown (g:=g') rfl;have:=strings_Join g' 0 c ws ⟨#[d]⟩ W (by
   intro j x hx;have h9:=hcells j (.string x) dL;unfold Addr.add at h9;split at h9 <;> simp_all) ((hown.lt g' rfl).2) aA aA hlen
  rw[hl]at this;exact this
structure aY where
 party:Int
 ser:Int
 secret:ByteArray
 fr:Int
 till:Int
structure dB where
 cust:Int
 ser:Int
 id:ByteArray
 conds:List aZ
 sl:List Nat
def ry(n:Int):Bool:=decide (1<=n/\n<=1073741824)
def jG(k:aY):Bool:=decide (1<=k.party/\k.party<=1073741824/\1<=k.ser/\k.ser<=1073741824/\1<=k.secret.size/\k.secret.size<=64/\0<=k.fr/\k.fr<k.till/\k.till<=1099511627776)
def jH(k:aY)(lo hi:Int):Bool:=decide (0<=lo/\lo<=hi/\hi<=1099511627776/\k.fr<=lo/\hi<k.till)
def lF(a b:aY):Bool:=decide (a.party<b.party\/a.party=b.party/\a.ser<b.ser)
def gq:List Nat:=List.replicate 16 0
def jV:dB:=⟨0,0,⟨#[]⟩,[],gq⟩
def nD:aY:=⟨0,0,⟨#[]⟩,0,0⟩
def yx(t:dB):Bool:=ry t.cust&&ry t.ser&&bI t.id
def fK(t:dB):Bool:=yx t&&decide (1<=t.conds.length/\t.conds.length<=16)&&t.conds.all bG
def yz(k:aY)(tag:Nat)(ps:List ByteArray):List Nat:=Sha.ofD tag ((k.secret :: ps++[k.secret]).map nb)
def jI(s:List Nat)(c:aZ):List Nat:=Sha.ofD 45 [s,nb (bF c)]
def wC(k:aY)(t:dB):List Nat:=yz k 45 [t.id,bF (t.conds.headD fV)]
def fA(k:aY)(t:dB):List Nat:=t.conds.tail.foldl jI (wC k t)
def lX(k:aY)(id:ByteArray)(c:aZ):dB × Int :=
 if jG k&&fK ⟨k.party,k.ser,id,[c],gq⟩ then (⟨k.party,k.ser,id,[c],fA k ⟨k.party,k.ser,id,[c],gq⟩⟩,0) else (jV,1)
def nG(t:dB)(c:aZ):dB × Int :=
 if bG c then (if 16<=t.conds.length then (jV,2) else (⟨t.cust,t.ser,t.id,t.conds++[c],jI t.sl c⟩,0)) else (jV,1)
def kU(t:dB):List Nat:=Sha.ofD 25 ([ae t.cust,ae t.ser,t.id].map nb)
def wE(l:List aZ):aZ:=l.tail.foldl jT (l.headD fV)
def gI(l:List aY)(party ser:Int):Option aY:=l.find? fun k=>decide (k.party=party/\k.ser=ser)
def jW(l:List aY)(t:dB)(lo hi:Int):Int:=match gI l t.cust t.ser with
 | none=>5
 | some k=>if jH k lo hi then (if fA k t=t.sl then 0 else 8) else 9
def iw(l:List aY)(t:dB)(a:bn):Int:=if jW l t a.lo a.hi=0 then (if t.conds.all fun c=>fH c a then 0 else 250) else jW l t a.lo a.hi
theorem Pq:∀(n:Nat)(s:Sha.St)(m:List Nat),(s.a<4294967296/\s.b<4294967296/\s.c<4294967296/\s.d<4294967296/\s.e<4294967296/\s.f<4294967296/\s.g<4294967296/\s.h<4294967296) ->
  ((Sha.blocks n s m).a<4294967296/\(Sha.blocks n s m).b<4294967296/\(Sha.blocks n s m).c<4294967296/\(Sha.blocks n s m).d<4294967296/\(Sha.blocks n s m).e<4294967296/\(Sha.blocks n s m).f<4294967296/\(Sha.blocks n s m).g<4294967296/\(Sha.blocks n s m).h<4294967296)
 | 0,_,_,h=>h
 | n+1,s,m,_=>Pq n (Sha.comp s m) (m.drop 64) ⟨Sha.add32_lt _ _,Sha.add32_lt _ _,Sha.add32_lt _ _,Sha.add32_lt _ _,Sha.add32_lt _ _,Sha.add32_lt _ _,Sha.add32_lt _ _,Sha.add32_lt _ _⟩
theorem aCl(m:List Nat):∀ x∈Sha.sum m,x<256:=by
 obtain⟨h1,h2,h3,h4,h5,h6,h7,h8⟩:=Pq ((Sha.pad m).length / 64) Sha.st0 (Sha.pad m) (by unfold Sha.st0;decide);intro x hx;unfold Sha.sum Sha.out at hx;simp only[List.mem_append]at hx;rcases hx with ((((((h | h) | h) | h) | h) | h) | h) | h
 ·exact Sha.bytes4_lt h1 x h
 ·exact Sha.bytes4_lt h2 x h
 ·exact Sha.bytes4_lt h3 x h
 ·exact Sha.bytes4_lt h4 x h
 ·exact Sha.bytes4_lt h5 x h
 ·exact Sha.bytes4_lt h6 x h
 ·exact Sha.bytes4_lt h7 x h
 ·exact Sha.bytes4_lt h8 x h
theorem aCm(tag:Nat)(ps:List (List Nat)):∀ x∈Sha.ofD tag ps,x<256:=fun x hx=>aCl _ x (List.mem_of_mem_take hx)
theorem Pv(tag:Nat)(ps:List (List Nat)):(Sha.ofD tag ps).length=16:=by
 unfold Sha.ofD;rw[List.length_take,show (Sha.sum (Sha.input tag ps)).length=32 from rfl];rfl
structure eU(s:List Nat):Prop where
 len:s.length=16
 lt:∀ x∈s,x<256
theorem qm(tag:Nat)(ps:List (List Nat)):eU (Sha.ofD tag ps):=⟨Pv tag ps,aCm tag ps⟩
theorem Px:eU gq:=⟨rfl,aK⟩
theorem Bq(k:aY)(t:dB):eU (fA k t):=by
 unfold fA;exact Py
theorem Pz(d:Nat)(h:d<10):Lib.digitVal (UInt8.ofNat (48+d))=some d:=by
 unfold Lib.digitVal;have e:(UInt8.ofNat (48+d)).toNat=48+d:=by rw[UInt8.toNat_ofNat'];omega
 rw[e,if_pos aA];congr 1;omega
theorem aCn(u:Nat):∀(acc:Nat)(r:List UInt8),Lib.decFrom acc (Lib.decDigits u++r)=Lib.decFrom (acc*10 ^ Lib.nDigits u+u) r:=by
 induction u using Nat.strongRecOn with
 | _ u ih =>
  intro acc r;by_cases h:u<10
  ·rw[Lib.decDigits,dif_pos h,Lib.nDigits_small h];simp only[List.cons_append,List.nil_append,Lib.decFrom,Pz u h,Nat.pow_one]
  ·rw[Lib.decDigits,dif_neg h,Lib.nDigits_big h,List.append_assoc,ih (u / 10) aA];simp only[List.cons_append,List.nil_append,Lib.decFrom,Pz (u % 10) aA];congr 1;rw[Nat.pow_succ,Nat.add_mul,<-Nat.mul_assoc];omega
theorem Gm(u:Nat):∀ b∈Lib.decDigits u,48<=b.toNat/\b.toNat<=57:=by
 induction u using Nat.strongRecOn with
 | _ u ih =>
  intro b hb;by_cases h:u<10
  ·rw[Lib.decDigits,dif_pos h,List.mem_singleton]at hb;subst hb;rw[UInt8.toNat_ofNat'];omega
  ·rw[Lib.decDigits,dif_neg h,List.mem_append,List.mem_singleton]at hb;rcases hb with hb | rfl
   ·exact ih (u / 10) aA b hb
   ·rw[UInt8.toNat_ofNat'];omega
theorem P5:∀(k u:Nat),u<10 ^ (k+1)->Lib.nDigits u<=k+1
 | 0,u,h=>by rw[Lib.nDigits_small kX];omega
 | k+1,u,h=>by
  by_cases h1:u<10
  ·rw[Lib.nDigits_small h1];omega
  ·rw[Lib.nDigits_big h1];have:=P5 k (u / 10) (by rw[Nat.pow_succ]at h;omega);omega
theorem Gn(u:Nat)(h:u<=1099511627777):(Lib.decDigits u).length<=13/\1<=(Lib.decDigits u).length:=by
 rw[Lib.decDigits_length];exact⟨P5 12 u aA,Lib.nDigits_pos u⟩
theorem wF(n:Int)(h:0<=n):(ae n).data.toList=Lib.decDigits n.toNat:=by
 unfold ae Lib.itoa;rw[if_neg aA]
theorem P6(u:Nat):Lib.decFrom 0 (Lib.decDigits u)=some u:=by
 have:=aCn u 0 [];rw[List.append_nil]at this;rw[this];simp[Lib.decFrom]
def wG(s:ByteArray):Int:=if s.size=0\/15<s.size then -1 else match Lib.decFrom 0 s.data.toList with
 | some n=>n
 | none=>-1
theorem aCo(n:Int)(h0:0<=n)(h1:n<=1099511627777):wG (ae n)=n:=by
 have hl:=Gn n.toNat aA;unfold wG;rw[Lib.size_eq,wF n h0,if_neg aA,P6];show ((n.toNat:Nat):Int)=n;omega
def az(s:ByteArray):Int:=match Lib.atoiAll s.data.toList with
 | .ok v=>v
 | .«syntax»=>0
 | .range=>Lib.atoiSat s.data.toList
def dU(s:ByteArray):Bool:=match Lib.atoiAll s.data.toList with
 | .ok _=>false
 | _=>true
theorem aCp(n:Int)(h0:0<=n)(h1:n<=1099511627777):Lib.atoiAll (ae n).data.toList=.ok n:=by
 have hl:=Gn n.toNat aA;rw[wF n h0,Lib.atoiAll_short _ aA];have hd:=Gm n.toNat;have hz:=P6 n.toNat;have hn:((n.toNat:Nat):Int)=n:=aA;cases hc:Lib.decDigits n.toNat with
 | nil=>rw[hc]at hl;simp at hl
 | cons b r =>
  rw[hc]at hd hz;have hb:=hd b aF;have e1:(b==45)=false:=P7;have e2:(b==43)=false:=P7;simp only[Lib.atoi,e1,e2,Lib.decNat,List.isEmpty_cons,hz];simp[Lib.NumEnd.ofOption,hn]
theorem sD(n:Int)(h0:0<=n)(h1:n<=1099511627777):az (ae n)=n/\dU (ae n)=false:=by
 unfold az dU;rw[aCp n h0 h1];exact⟨rfl,rfl⟩
theorem P8(c:UInt8):∀(x:List UInt8)(l:List (List UInt8)),c ∉ x->(∀ y∈l,c ∉ y)->dJ c (x++Lib.joinTail [c] l)=x :: l
 | x,[],hx,_=>by simp[Lib.joinTail];exact BB x c hx
 | x,y :: l,hx,hl=>by
  have e:Lib.joinTail [c] (y :: l)=c :: (y++Lib.joinTail [c] l):=by simp[Lib.joinTail]
  rw[e,A8 x _ c hx,P8 c y l (hl y aF) (fun z hz=>hl z (by simp[hz]))]
theorem Gp(c:UInt8)(zs:List ByteArray)(h0:zs ≠ [])(h:∀ z∈zs,c ∉ z.data.toList):splitB c ⟨(Lib.join (zs.map (·.data.toList)) [c]).toArray⟩=zs:=by
 cases zs with
 | nil=>exact absurd rfl h0
 | cons x l =>
  unfold splitB;rw[List.map_cons,Lib.join_cons];show (dJ c (x.data.toList++Lib.joinTail [c] (l.map (·.data.toList)))).map _=_;rw[P8 c x.data.toList _ (h x aF) (by
   intro y hy;obtain⟨z,hz,rfl⟩:=List.mem_map.1 hy;exact h z (by simp[hz]))]
  have:∀ z:ByteArray,(⟨z.data.toList.toArray⟩:ByteArray)=z:=fun z=>dP rfl
  simp[Function.comp_def,this]
theorem y7(b:UInt8)(h:fQ b=true):b≠32/\b≠44/\b≠126:=by
 refine⟨?_,?_,?_⟩ <;> (rintro rfl;revert h;decide)
theorem Bv{s:ByteArray}(h:bI s=true):s.size≠0/\32 ∉ s.data.toList/\44 ∉ s.data.toList/\126 ∉ s.data.toList:=by
 have hw:=oV (oW h);have h1:=(yF (oW h)).1;refine⟨fun e=>h1 (List.eq_nil_of_length_eq_zero (by rw[<-Lib.size_eq];exact e)),fun hm=>(y7 _ (hw _ hm)).1 rfl,fun hm=>(y7 _ (hw _ hm)).2.1 rfl,fun hm=>(y7 _ (hw _ hm)).2.2 rfl⟩
theorem Bz{s:ByteArray}(h:dm s=true):s.size≠0/\32 ∉ s.data.toList/\44 ∉ s.data.toList/\126 ∉ s.data.toList:=by
 unfold dm at h;simp only[Bool.and_eq_true,decide_eq_true_eq,List.all_eq_true]at h;obtain⟨h1,h2⟩:=h;refine⟨aA,fun hm=>?_,fun hm=>?_,fun hm=>?_⟩ <;> exact absurd (h2 _ hm) aK
theorem qN(n:Int)(h0:0<=n):(ae n).size≠0/\32 ∉ (ae n).data.toList/\44 ∉ (ae n).data.toList/\126 ∉ (ae n).data.toList:=by
 have hd:=Gm n.toNat;have hl:1<=(Lib.decDigits n.toNat).length:=by rw[Lib.decDigits_length];exact Lib.nDigits_pos _
 rw[Lib.size_eq,wF n h0];refine⟨aA,fun hm=>?_,fun hm=>?_,fun hm=>?_⟩ <;> exact absurd (hd _ hm) aK
theorem P9{p:bJ}(hp:iE p):∀ b∈(eP p.kind p.text).data.toList,fQ b=true\/b=42:=by
 intro b hb;rw[qH]at hb;rcases hp with ⟨hk,hw⟩ | ⟨hk,s,hs,hs2,ht⟩ | ⟨hk,ht⟩
 ·rw[if_pos hk]at hb;exact .inl (oV hw b hb)
 ·rw[if_neg aA,ht]at hb;simp only[List.mem_cons]at hb;rcases hb with rfl | rfl | hb
  ·exact .inr rfl
  ·exact .inl aK
  ·exact .inl (oV hs b hb)
 ·rw[if_neg aA,ht]at hb;simp only[List.mem_cons]at hb;rcases hb with rfl | hb
  ·exact .inr rfl
  ·exact absurd hb aF
theorem QB{z:Pat}(hz:mg z):∀ b∈(ku z).data.toList,fQ b=true\/b=42\/b=47:=by
 intro b hb;rw[yX,yV,List.mem_append]at hb;rcases hb with hb | hb
 ·rcases P9 hz.cust.part b hb with h | h
  ·exact .inl h
  ·exact .inr (.inl h)
 ·unfold dO at hb;rw[List.mem_flatMap]at hb;obtain⟨l,hl,hb⟩:=hb;simp only[List.mem_cons]at hb;rcases hb with rfl | hb
  ·exact .inr (.inr rfl)
  ·unfold bD at hl;obtain⟨y,hy,rfl⟩:=List.mem_map.1 hl;rw[List.mem_append]at hy;rcases hy with hy | hy
   ·unfold dM at hy;obtain⟨p,hp,rfl⟩:=List.mem_map.1 hy;rcases P9 (hz.parts p hp) b hb with h | h
    ·exact .inl h
    ·exact .inr (.inl h)
   ·unfold jS at hy;split at hy
    ·simp only[List.mem_singleton]at hy;subst hy;simp only[List.mem_cons,List.not_mem_nil,or_false]at hb;rcases hb with rfl | rfl <;> exact .inr (.inl rfl)
    ·exact absurd hy aF
theorem QC{p:ByteArray}(h:iF p=true):32 ∉ p.data.toList/\126 ∉ p.data.toList:=by
 by_cases h0:p.size=0
 ·have:p.data.toList=[]:=List.eq_nil_of_length_eq_zero yJ;rw[this];simp
 ·obtain⟨x,hx⟩:=Bd h h0;rw[<-Nv hx];have hb:=QB (uG hx);refine⟨fun hm=>?_,fun hm=>?_⟩
  ·rcases hb _ hm with h | h | h
   ·exact (y7 _ h).1 rfl
   ·exact absurd h aK
   ·exact absurd h aK
  ·rcases hb _ hm with h | h | h
   ·exact (y7 _ h).2.2 rfl
   ·exact absurd h aK
   ·exact absurd h aK
def dE(s:ByteArray):List ByteArray:=if s.data.toList=[126] then [] else splitB 44 s
def unT(s:ByteArray):ByteArray:=if s.data.toList=[126] then ⟨#[]⟩ else s
theorem QE{x:ByteArray}{r:List ByteArray}(h0:x.size≠0):∃ b t,b∈x.data.toList/\(jh (x :: r)).data.toList=b :: t:=by
 unfold jh;rw[List.map_cons,Lib.join_cons];cases hx:x.data.toList with
 | nil=>rw[Lib.size_eq,hx]at h0;simp at h0
 | cons b t=>exact⟨b,_,aF,rfl⟩
theorem wH(xs:List ByteArray)(c:UInt8)(hc:c≠44)(hc2:c≠126)(h:∀ x∈xs,c ∉ x.data.toList):c ∉ (dN xs).data.toList:=by
 unfold dN orT;split
 ·intro hm;simp only[List.mem_cons,List.not_mem_nil,or_false]at hm;exact hc2 hm
 ·unfold jh;cases xs with
  | nil=>simp[Lib.join_nil]
  | cons x l =>
   rw[List.map_cons,Lib.join_cons];intro hm;rcases List.mem_append.1 hm with hm | hm
   ·exact h x aF hm
   ·have:∀ l:List ByteArray,(∀ x∈l,c ∉ x.data.toList)->c ∉ Lib.joinTail [44] (l.map (·.data.toList)):=by
     intro l;induction l with
     | nil=>intro _;simp[Lib.joinTail]
     | cons y l ih =>
      intro hy;have e:Lib.joinTail [44] ((y :: l).map (·.data.toList))=44 :: (y.data.toList++Lib.joinTail [44] (l.map (·.data.toList))):=by simp[Lib.joinTail]
      rw[e];simp only[List.mem_cons,List.mem_append,not_or];exact⟨hc,hy y aF,ih (fun x hx=>hy x dL)⟩
    exact this l (fun x hx=>h x dL) hm
theorem CE(xs:List ByteArray)(h:∀ x∈xs,x.size≠0/\44 ∉ x.data.toList/\126 ∉ x.data.toList):dE (dN xs)=xs:=by
 cases xs with
 | nil=>unfold dN orT jh;rfl
 | cons x r =>
  obtain⟨b,t,hb,he⟩:=QE (r:=r) (h x aF).1;have hs:¬ (jh (x :: r)).size=0:=by rw[Lib.size_eq,he];simp
  unfold dN orT dE;rw[if_neg hs,if_neg (by
   rw[he];intro e;injection e with e1 e2
   subst e1;exact (h x aF).2.2 hb)]
  exact Gp 44 (x :: r) aF (fun z hz=>(h z hz).2.1)
theorem aCq{p:ByteArray}(h:126 ∉ p.data.toList):unT (orT p ⟨#[126]⟩)=p:=by
 unfold orT unT;by_cases h0:p.size=0
 ·rw[if_pos h0,if_pos rfl];exact (dP (by
   have:p.data.toList=[]:=List.eq_nil_of_length_eq_zero yJ;rw[this])).symm
 ·rw[if_neg h0,if_neg (fun e=>h (by rw[e];simp))]
def aT:ByteArray:=⟨#[126]⟩
def iC(num:ByteArray->Int)(f:List ByteArray):aZ :=
 ⟨num (f.getD 0 aT),num (f.getD 1 aT),unT (f.getD 2 aT),dE (f.getD 3 aT),dE (f.getD 4 aT),(dE (f.getD 5 aT)).map num,num (f.getD 6 aT)⟩
def uQ(f:List ByteArray):Bool:=!decide (f.length=7)||dU (f.getD 0 aT)||dU (f.getD 1 aT)||(dE (f.getD 5 aT)).any dU||dU (f.getD 6 aT)
def sF(s:ByteArray):Option aZ:=if (splitB 32 s).length=7/\bG (iC wG (splitB 32 s))=true/\bF (iC wG (splitB 32 s))=s then some (iC wG (splitB 32 s)) else none
def fM(s:ByteArray):Option aZ:=if uQ (splitB 32 s)=false/\bG (iC az (splitB 32 s))=true/\bF (iC az (splitB 32 s))=s then some (iC az (splitB 32 s)) else none
theorem aCr{c:aZ}(hc:lC c):∀ z∈jU c,32 ∉ z.data.toList:=by
 have a0:=hc.fr0;have a1:=hc.to0;have a2:=hc.us0;have hp:32 ∉ (orT c.pat ⟨#[126]⟩).data.toList:=by
  unfold orT;split
  ·decide
  ·exact (QC hc.pat).1
 have hsi:∀ x∈c.si.map ae,32 ∉ x.data.toList:=by
  exact QF
 intro z hz;unfold jU at hz;simp only[List.mem_cons,List.not_mem_nil,or_false]at hz;rcases hz with rfl | rfl | rfl | rfl | rfl | rfl | rfl
 ·exact (qN _ a0).2.1
 ·exact (qN _ a1).2.1
 ·exact hp
 ·exact wH _ 32 aK aK (fun x hx=>(Bv (hc.cl x hx)).2.1)
 ·exact wH _ 32 aK aK (fun x hx=>(Bz (hc.co x hx)).2.1)
 ·exact wH _ 32 aK aK hsi
 ·exact (qN _ a2).2.1
theorem QH{c:aZ}(hc:lC c):splitB 32 (bF c)=jU c:=Gp 32 (jU c) (by simp[jU]) (aCr hc)
theorem QI{c:aZ}(hc:lC c)(num:ByteArray->Int)(hn:∀ n:Int,0<=n->n<=1099511627777->num (ae n)=n):iC num (jU c)=c:=by
 have a0:=hc.fr0;have a1:=hc.to0;have a2:=hc.us0;have b0:=hc.fr1;have b1:=hc.to1;have b2:=hc.us1;have hs:∀ n∈c.si,0<=n/\n<64:=by
  intro n hn;have:=hc.si n hn;unfold ed at this;simpa using this
 have e1:dE (dN c.cl)=c.cl:=CE _ (fun x hx=>⟨(Bv (hc.cl x hx)).1,(Bv (hc.cl x hx)).2.2⟩);have e2:dE (dN c.co)=c.co:=CE _ (fun x hx=>⟨(Bz (hc.co x hx)).1,(Bz (hc.co x hx)).2.2⟩);have e3:dE (dN (c.si.map ae))=c.si.map ae:=CE _ (fun x hx=>by
  obtain⟨n,hn,rfl⟩:=List.mem_map.1 hx;exact⟨(qN n (hs n hn).1).1,(qN n (hs n hn).1).2.2⟩)
 have e4:(c.si.map ae).map num=c.si:=by
  rw[List.map_map]
  conv=>rhs;rw[<-List.map_id c.si]
  exact List.map_congr_left fun n hm=>hn n (hs n hm).1 (by have:=(hs n hm).2;omega)
 unfold iC jU;simp only[ai];rw[hn _ a0 aA,hn _ a1 b1,hn _ a2 aA,e1,e2,e3,e4,aCq (QC hc.pat).2]
theorem aCs{c:aZ}(hc:lC c):uQ (jU c)=false:=by
 have a0:=hc.fr0;have a1:=hc.to0;have a2:=hc.us0;have b0:=hc.fr1;have b1:=hc.to1;have b2:=hc.us1;have hs:∀ n∈c.si,0<=n/\n<64:=by
  intro n hn;have:=hc.si n hn;unfold ed at this;simpa using this
 have e3:dE (dN (c.si.map ae))=c.si.map ae:=CE _ (fun x hx=>by
  obtain⟨n,hn,rfl⟩:=List.mem_map.1 hx;exact⟨(qN n (hs n hn).1).1,(qN n (hs n hn).1).2.2⟩)
 have e4:(c.si.map ae).any dU=false:=by
  rw[List.any_eq_false];intro x hx;obtain⟨n,hn,rfl⟩:=List.mem_map.1 hx;rw[(sD n (hs n hn).1 (by have:=(hs n hn).2;omega)).2];decide
 unfold uQ jU;simp only[ai];rw[e3,e4,(sD _ a0 aA).2,(sD _ a1 b1).2,(sD _ a2 aA).2];rfl
theorem aCt{c:aZ}(h:bG c=true):sF (bF c)=some c:=by
 have hc:=(mi c).1 h;unfold sF;rw[QH hc,QI hc wG aCo,if_pos ⟨rfl,h,rfl⟩]
theorem Gq{c:aZ}(h:bG c=true):fM (bF c)=some c:=by
 have hc:=(mi c).1 h;unfold fM;rw[QH hc,QI hc az (fun n h0 h1=>(sD n h0 h1).1),if_pos ⟨aCs hc,h,rfl⟩]
theorem aCu{s:ByteArray}{c:aZ}(h:sF s=some c):bG c=true/\bF c=s:=by
 unfold sF at h;split at h
 ·rename_i h1;injection h with h;subst h;exact h1.2
 ·cases h
theorem aCv{s:ByteArray}{c:aZ}(h:fM s=some c):bG c=true/\bF c=s:=by
 unfold fM at h;split at h
 ·rename_i h1;injection h with h;subst h;exact h1.2
 ·cases h
theorem aCw(s:ByteArray):fM s=sF s:=by
 cases h:fM s with
 | some c =>
  obtain⟨h1,h2⟩:=aCv h;rw[<-h2,aCt h1]
 | none =>
  cases h3:sF s with
  | none=>rfl
  | some c =>
   obtain⟨h1,h2⟩:=aCu h3;rw[<-h2,Gq h1]at h;cases h
def jl(n:Nat):UInt8:=if n<10 then UInt8.ofNat (48+n) else UInt8.ofNat (87+n)
def lG(s:List Nat):List UInt8:=s.flatMap fun n=>[jl (n / 16),jl (n % 16)]
def lY(s:List Nat):ByteArray:=⟨(lG s).toArray⟩
def kP(b:UInt8):Nat:=if 48<=b.toNat/\b.toNat<=57 then b.toNat-48 else if 97<=b.toNat/\b.toNat<=102 then b.toNat-87 else 16
def oC:List UInt8->Option (List Nat)
 | []=>some []
 | [_]=>none
 | a :: b :: r=>if kP a<16/\kP b<16 then (oC r).map ((16*kP a+kP b) :: ·) else none
def jm(t:dB):List ByteArray:=ae t.cust :: ae t.ser :: t.id :: (t.conds.map bF++[lY t.sl])
def kG(t:dB):ByteArray:=Bo 59 (jm t)
theorem CG:∀ n,n<16->kP (jl n)=n/\jl n≠59:=by decide
theorem Gs:∀ s:List Nat,(∀ x∈s,x<256)->oC (lG s)=some s
 | [],_=>rfl
 | n :: s,h=>by
  have hn:n<256:=h n aF;have e:lG (n :: s)=jl (n / 16) :: jl (n % 16) :: lG s:=rfl;have h1:=(CG (n / 16) aA).1;have h2:=(CG (n % 16) aA).1;rw[e,oC,h1,h2,if_pos aA,Gs s (fun x hx=>h x dL)];show some ((16*(n / 16)+n % 16) :: s)=_;rw[show 16*(n / 16)+n % 16=n by omega]
theorem QJ(b:UInt8)(h:fQ b=true):b≠59:=by rintro rfl;revert h;decide
theorem wI(n:Int)(h0:0<=n):59 ∉ (ae n).data.toList:=by
 rw[wF n h0];intro hm;exact absurd (Gm n.toNat _ hm) aK
theorem QK{s:ByteArray}(h:bI s=true):59 ∉ s.data.toList:=fun hm=>QJ _ (oV (oW h) _ hm) rfl
theorem aCx{s:ByteArray}(h:dm s=true):59 ∉ s.data.toList:=by
 unfold dm at h;simp only[Bool.and_eq_true,decide_eq_true_eq,List.all_eq_true]at h;exact fun hm=>absurd (h.2 _ hm) aK
theorem aCy{p:ByteArray}(h:iF p=true):59 ∉ p.data.toList:=by
 by_cases h0:p.size=0
 ·have:p.data.toList=[]:=List.eq_nil_of_length_eq_zero yJ;rw[this];simp
 ·obtain⟨x,hx⟩:=Bd h h0;rw[<-Nv hx];have hb:=QB (uG hx);intro hm;rcases hb _ hm with h | h | h
  ·exact QJ _ h rfl
  ·exact absurd h aK
  ·exact absurd h aK
theorem aCz(d:UInt8)(l:List (List UInt8))(b:UInt8)(hb:b∈Lib.join l [d]):b=d\/∃ x∈l,b∈x:=by
 cases l with
 | nil=>rw[Lib.join_nil]at hb;simp at hb
 | cons x l =>
  rw[Lib.join_cons]at hb;rcases List.mem_append.1 hb with hb | hb
  ·exact .inr ⟨x,aF,hb⟩
  ·have:∀ l:List (List UInt8),b∈Lib.joinTail [d] l->b=d\/∃ x∈l,b∈x:=by
    intro l;induction l with
    | nil=>intro h;simp[Lib.joinTail]at h
    | cons y l ih =>
     intro h;have e:Lib.joinTail [d] (y :: l)=d :: (y++Lib.joinTail [d] l):=by simp[Lib.joinTail]
     rw[e]at h;rcases List.mem_cons.1 h with h | h
     ·exact .inl h
     ·rcases List.mem_append.1 h with h | h
      ·exact .inr ⟨y,aF,h⟩
      ·rcases ih h with h | ⟨x,hx,h⟩
       ·exact .inl h
       ·exact .inr ⟨x,dL,h⟩
   rcases this l hb with h | ⟨x,hx,h⟩
   ·exact .inl h
   ·exact .inr ⟨x,dL,h⟩
theorem aDa{c:aZ}(h:bG c=true):59 ∉ (bF c).data.toList:=by
 have hc:=(mi c).1 h;have a0:=hc.fr0;have a1:=hc.to0;have a2:=hc.us0;have hsi:∀ x∈c.si.map ae,59 ∉ x.data.toList:=by
  exact QF
 intro hm;rcases aCz 32 _ _ hm with h | ⟨x,hx,hb⟩
 ·exact absurd h aK
 obtain⟨z,hz,rfl⟩:=List.mem_map.1 hx;unfold jU at hz;simp only[List.mem_cons,List.not_mem_nil,or_false]at hz;rcases hz with rfl | rfl | rfl | rfl | rfl | rfl | rfl
 ·exact wI _ a0 hb
 ·exact wI _ a1 hb
 ·unfold orT at hb;split at hb
  ·simp at hb
  ·exact aCy hc.pat hb
 ·exact wH _ 59 aK aK (fun x hx=>QK (hc.cl x hx)) hb
 ·exact wH _ 59 aK aK (fun x hx=>aCx (hc.co x hx)) hb
 ·exact wH _ 59 aK aK hsi hb
 ·exact wI _ a2 hb
structure y8(t:dB):Prop where
 c0:1<=t.cust
 c1:t.cust<=1073741824
 s0:1<=t.ser
 s1:t.ser<=1073741824
 id:bI t.id=true
 n0:1<=t.conds.length
 n1:t.conds.length<=16
 all:∀ c∈t.conds,bG c=true
theorem uS(t:dB):fK t=true↔y8 t:=by
 unfold fK yx ry;simp only[Bool.and_eq_true,decide_eq_true_eq,List.all_eq_true];constructor
 ·rintro⟨⟨⟨⟨⟨a,b⟩,c,d⟩,e⟩,f,g⟩,h⟩;exact⟨a,b,c,d,e,f,g,h⟩
 ·rintro⟨a,b,c,d,e,f,g,h⟩;exact⟨⟨⟨⟨⟨a,b⟩,c,d⟩,e⟩,f,g⟩,h⟩
theorem aDb{t:dB}(ht:y8 t)(hs:eU t.sl):∀ z∈jm t,59 ∉ z.data.toList:=by
 have a0:=ht.c0;have a1:=ht.s0;intro z hz;unfold jm at hz;simp only[List.mem_cons,List.mem_append,List.not_mem_nil,or_false]at hz;rcases hz with rfl | rfl | rfl | hz | rfl
 ·exact wI _ aA
 ·exact wI _ aA
 ·exact QK ht.id
 ·obtain⟨c,hc,rfl⟩:=List.mem_map.1 hz;exact aDa (ht.all c hc)
 ·intro hm;obtain⟨n,hn,hb⟩:=List.mem_flatMap.1 (show (59:UInt8)∈lG t.sl from hm);have hlt:=hs.lt n hn;simp only[List.mem_cons,List.not_mem_nil,or_false]at hb;rcases hb with hb | hb
  ·exact (CG (n / 16) aA).2 hb.symm
  ·exact (CG (n % 16) aA).2 hb.symm
theorem aDc{t:dB}(ht:y8 t)(hs:eU t.sl):splitB 59 (kG t)=jm t:=Gp 59 (jm t) (by simp[jm]) (aDb ht hs)
def wJ(num:ByteArray->Int)(rd:ByteArray->Option aZ)(f:List ByteArray):dB :=
 ⟨num (f.getD 0 aT),num (f.getD 1 aT),f.getD 2 aT,((f.drop 3).dropLast).map (fun x=>(rd x).getD fV),(oC (f.getLastD aT).data.toList).getD gq⟩
def okF(rd:ByteArray->Option aZ)(f:List ByteArray):Bool:=decide (5<=f.length/\f.length<=20)&&((f.drop 3).dropLast).all (fun x=>(rd x).isSome)&&decide ((f.getLastD aT).size=32)&&(oC (f.getLastD aT).data.toList).isSome
def jo(s:ByteArray):Bool:=!dU s&&decide (ae (az s)=s)
def qO(s:ByteArray):Option dB :=
 if okF fM (splitB 59 s)&&jo ((splitB 59 s).getD 0 aT)&&jo ((splitB 59 s).getD 1 aT)&&fK (wJ az fM (splitB 59 s)) then some (wJ az fM (splitB 59 s)) else none
theorem aDd(s:List Nat)(h:s.length=16):(lY s).size=32:=by
 have:∀ s:List Nat,(lG s).length=2*s.length:=by
  intro s;induction s with
  | nil=>rfl
  | cons n s ih=>show (jl (n / 16) :: jl (n % 16) :: lG s).length=_;simp[ih];omega
 rw[Lib.size_eq];show (lG s).length=32;rw[this,h]
theorem QL{α:Type}(l:List α)(z d:α):(l++[z]).getLastD d=z:=by simp[List.getLastD_eq_getLast?]
theorem aDe{t:dB}(ht:y8 t)(hs:eU t.sl)(rd:ByteArray->Option aZ)(hr:∀ c,bG c=true->rd (bF c)=some c):okF rd (jm t)=true:=by
 have n0:=ht.n0;have n1:=ht.n1;have e3:(jm t).drop 3=t.conds.map bF++[lY t.sl]:=rfl;have e4:(jm t).getLastD aT=lY t.sl:=QL (ae t.cust :: ae t.ser :: t.id :: t.conds.map bF) _ _;have el:(jm t).length=t.conds.length+4:=by unfold jm;simp
 unfold okF;rw[e3,e4,el,List.dropLast_concat,aDd _ hs.len,show (lY t.sl).data.toList=lG t.sl from rfl,Gs _ hs.lt];have ha:(t.conds.map bF).all (fun x=>(rd x).isSome)=true:=by
  rw[List.all_eq_true];intro x hx;obtain⟨c,hc,rfl⟩:=List.mem_map.1 hx;rw[hr c (ht.all c hc)];rfl
 rw[ha,decide_eq_true (show 5<=t.conds.length+4/\t.conds.length+4<=20 by omega)];rfl
theorem aDf{t:dB}(ht:y8 t)(hs:eU t.sl)(num:ByteArray->Int)(rd:ByteArray->Option aZ)(hn:∀ n:Int,1<=n->n<=1073741824->num (ae n)=n)(hr:∀ c,bG c=true->rd (bF c)=some c):wJ num rd (jm t)=t:=by
 have e3:(jm t).drop 3=t.conds.map bF++[lY t.sl]:=rfl;have e4:(jm t).getLastD aT=lY t.sl:=QL (ae t.cust :: ae t.ser :: t.id :: t.conds.map bF) _ _;have e5:(t.conds.map bF).map (fun x=>(rd x).getD fV)=t.conds:=by
  rw[List.map_map]
  conv=>rhs;rw[<-List.map_id t.conds]
  exact List.map_congr_left fun c hc=>by show (rd (bF c)).getD fV=c;rw[hr c (ht.all c hc)];rfl
 unfold wJ;rw[e3,e4,List.dropLast_concat,show (lY t.sl).data.toList=lG t.sl from rfl,Gs _ hs.lt,e5];show (⟨num (ae t.cust),num (ae t.ser),t.id,t.conds,t.sl⟩:dB)=t;rw[hn _ ht.c0 ht.c1,hn _ ht.s0 ht.s1]
theorem QM{n:Int}(h0:0<=n)(h1:n<=1099511627777):jo (ae n)=true:=by
 unfold jo;rw[(sD n h0 h1).1,(sD n h0 h1).2];simp
theorem aDg{t:dB}(h:fK t=true)(hs:eU t.sl):qO (kG t)=some t:=by
 have ht:=(uS t).1 h;have a0:=ht.c0;have a1:=ht.c1;have b0:=ht.s0;have b1:=ht.s1;unfold qO;rw[aDc ht hs,aDe ht hs fM (fun c hc=>Gq hc),aDf ht hs az fM (fun n h0 h1=>(sD n aA aA).1) (fun c hc=>Gq hc),h];show (if true&&jo (ae t.cust)&&jo (ae t.ser)&&true then some t else none)=some t;rw[QM aA aA,QM aA aA];rfl
attribute [local go_sem] Oper.semAt_some
theorem CP{w:World}{A:Option Addr}{n:Nat}{vs:List Value}(hR:aH w 1 A n vs):0<n->∀ a,A=some a->a.block<w.heap.size:=by
 intro hn a ha;obtain⟨b,o,e,hc⟩:=hR.2 hn;rw[e]at ha;injection ha with ha
 subst ha;have hl:0<vs.length:=by have:=hR.1;omega
 have:=bf (hc 0 _ (List.getElem?_eq_getElem hl));exact this
end Go.Proofs.YtlkbkclnbppigaaGreatDoor
