/- Plain: what the policy package says of a rule, a stamp and a period. -/
import Derived.Test.YtlkbkclnbppigaaGreatDoorIZ15
import Derived.Test.YtlkbkclnbppigaaGreatDoorIZ22
import Derived.Laws.EntriesVeiled
namespace Go.Proofs.YtlkbkclnbppigaaGreatDoor
open Tryz
open Go.RowKit Go.Sort
set_option linter.unusedVariables false
set_option linter.unusedSimpArgs false
set_option maxRecDepth 100000
structure D16 where
 (a0 a1 a2 a3 a4 a5 a6 a7 a8 a9 a10 a11 a12 a13 a14 a15:Int)
structure yL where
 addr:aC
 variant:aC
 status:Int
 size:Int
 body:D16
 tags:aC
 lo:Int
 hi:Int
 gate:Int
 serial:Int
 seal_:D16
def yL.cells(s:yL):List Value:=[.string s.addr,.string s.variant,.int .i64 s.status,.int .i64 s.size,
 .int .u8 s.body.a0,.int .u8 s.body.a1,.int .u8 s.body.a2,.int .u8 s.body.a3,.int .u8 s.body.a4,.int .u8 s.body.a5,.int .u8 s.body.a6,.int .u8 s.body.a7,.int .u8 s.body.a8,.int .u8 s.body.a9,.int .u8 s.body.a10,.int .u8 s.body.a11,.int .u8 s.body.a12,.int .u8 s.body.a13,.int .u8 s.body.a14,.int .u8 s.body.a15,
 .string s.tags,.int .i64 s.lo,.int .i64 s.hi,.int .i64 s.gate,.int .i64 s.serial,
 .int .u8 s.seal_.a0,.int .u8 s.seal_.a1,.int .u8 s.seal_.a2,.int .u8 s.seal_.a3,.int .u8 s.seal_.a4,.int .u8 s.seal_.a5,.int .u8 s.seal_.a6,.int .u8 s.seal_.a7,.int .u8 s.seal_.a8,.int .u8 s.seal_.a9,.int .u8 s.seal_.a10,.int .u8 s.seal_.a11,.int .u8 s.seal_.a12,.int .u8 s.seal_.a13,.int .u8 s.seal_.a14,.int .u8 s.seal_.a15]
def yL.val(s:yL):Value:=.agg s.cells.toArray
open Go.Maps
def pK(lo hi:Int):Value:=.agg #[.int .i64 lo,.int .i64 hi]
end Go.Proofs.YtlkbkclnbppigaaGreatDoor
namespace Go.Proofs.YtlkbkclnbppigaaGreatDoor
open Tryz
open Go.RowKit Go.Sort
set_option linter.unusedVariables false
set_option linter.unusedSimpArgs false
set_option maxRecDepth 100000
def yM(d:UInt8)(xs:List aC):aC:=⟨(Lib.join (xs.map (·.data.toList)) [d]).toArray⟩
theorem VZ(d:UInt8)(A:Option Addr)(n c:Nat)(ws:List aC)(W:World)(base:Nat)(hown:W.ownsRow base 9 1 (.slice A n c) n (ws.map .string))(hlen:(Lib.join (ws.map (·.data.toList)) [d]).length<=140737488355328)(hn:n<=1000000) :
  Calls prog 72 #[.slice A n c,.string ⟨#[d]⟩] W (Ret W (.string (yM d ws))):=by
 have hl:ws.length=n:=AX;rcases hown.2 with ⟨h,h0⟩ | ⟨g',cap,cur,he,hb,hh,h1,h2,h3,h4⟩
 ·injection h with e1 e2 e3
  subst e1;subst h0;obtain rfl:ws=[]:=List.eq_nil_of_length_eq_zero hl;refine (strings_Join_none none c ⟨#[d]⟩ W).mono fun e w' ⟨h5,h6⟩=>⟨?_,by rw[h6];exact Below.refl _ _⟩
  rw[h5];rfl
 ·injection he with e1 e2 e3
  subst e1;subst e3;have hcells:=World.ownsRow.cells hown (g:=g') rfl;have:=strings_Join g' 0 c ws ⟨#[d]⟩ W (by
   intro j x hx;have h9:=hcells j (.string x) gB;unfold Addr.add at h9;split at h9 <;> simp_all) ((hown.lt g' rfl).2) aB aB hlen
  rw[hl]at this;exact this
structure aj where
 party:Int
 ser:Int
 secret:aC
 fr:Int
 till:Int
structure bz where
 cust:Int
 ser:Int
 id:aC
 conds:List aY
 sl:List Nat
def pM(n:Int):Bool:=decide (1<=n/\n<=1073741824)
def lQ(k:aj):Bool:=decide (1<=k.party/\k.party<=1073741824/\1<=k.ser/\k.ser<=1073741824/\1<=k.secret.size/\k.secret.size<=64/\0<=k.fr/\k.fr<k.till/\k.till<=1099511627776)
def lT(k:aj)(lo hi:Int):Bool:=decide (0<=lo/\lo<=hi/\hi<=1099511627776/\k.fr<=lo/\hi<k.till)
def Bl(a b:aj):Bool:=decide (a.party<b.party\/a.party=b.party/\a.ser<b.ser)
def fH:List Nat:=List.replicate 16 0
def iK:bz:=⟨0,0,⟨#[]⟩,[],fH⟩
def sG:aj:=⟨0,0,⟨#[]⟩,0,0⟩
def Bo(t:bz):Bool:=pM t.cust&&pM t.ser&&bU t.id
def gX(t:bz):Bool:=Bo t&&decide (1<=t.conds.length/\t.conds.length<=16)&&t.conds.all bF
def Bq(k:aj)(tag:Nat)(ps:List aC):List Nat:=Sha.ofD tag ((k.secret :: ps++[k.secret]).map nb)
def je(s:List Nat)(c:aY):List Nat:=Sha.ofD 45 [s,nb (bK c)]
def yN(k:aj)(t:bz):List Nat:=Bq k 45 [t.id,bK (t.conds.headD ed)]
def eU(k:aj)(t:bz):List Nat:=t.conds.tail.foldl je (yN k t)
def jy(k:aj)(id:aC)(c:aY):bz × Int :=
 if lQ k&&gX ⟨k.party,k.ser,id,[c],fH⟩ then (⟨k.party,k.ser,id,[c],eU k ⟨k.party,k.ser,id,[c],fH⟩⟩,0) else (iK,1)
def kW(t:bz)(c:aY):bz × Int :=
 if bF c then (if 16<=t.conds.length then (iK,2) else (⟨t.cust,t.ser,t.id,t.conds++[c],je t.sl c⟩,0)) else (iK,1)
def jR(t:bz):List Nat:=Sha.ofD 25 ([ai t.cust,ai t.ser,t.id].map nb)
def sH(l:List aY):aY:=l.tail.foldl iH (l.headD ed)
def kX(l:List aj)(party ser:Int):Option aj:=l.find? fun k=>decide (k.party=party/\k.ser=ser)
def mY(l:List aj)(t:bz)(lo hi:Int):Int:=match kX l t.cust t.ser with
 | none=>5
 | some k=>if lT k lo hi then (if eU k t=t.sl then 0 else 8) else 9
def iY(l:List aj)(t:bz)(a:dN):Int:=if mY l t a.lo a.hi=0 then (if t.conds.all fun c=>fM c a then 0 else 250) else mY l t a.lo a.hi
theorem JV:∀(n:Nat)(s:Sha.St)(m:List Nat),(s.a<4294967296/\s.b<4294967296/\s.c<4294967296/\s.d<4294967296/\s.e<4294967296/\s.f<4294967296/\s.g<4294967296/\s.h<4294967296) ->
  ((Sha.blocks n s m).a<4294967296/\(Sha.blocks n s m).b<4294967296/\(Sha.blocks n s m).c<4294967296/\(Sha.blocks n s m).d<4294967296/\(Sha.blocks n s m).e<4294967296/\(Sha.blocks n s m).f<4294967296/\(Sha.blocks n s m).g<4294967296/\(Sha.blocks n s m).h<4294967296)
 | 0,_,_,h=>h
 | n+1,s,m,_=>JV n (Sha.comp s m) (m.drop 64) ⟨Sha.add32_lt _ _,Sha.add32_lt _ _,Sha.add32_lt _ _,Sha.add32_lt _ _,Sha.add32_lt _ _,Sha.add32_lt _ _,Sha.add32_lt _ _,Sha.add32_lt _ _⟩
theorem Va(m:List Nat):∀ x∈Sha.sum m,x<256:=by
 obtain⟨h1,h2,h3,h4,h5,h6,h7,h8⟩:=JV ((Sha.pad m).length / 64) Sha.st0 (Sha.pad m) (by unfold Sha.st0;decide);intro x hx;unfold Sha.sum Sha.out at hx;simp only[List.mem_append]at hx;rcases hx with ((((((h | h) | h) | h) | h) | h) | h) | h
 ·exact Sha.bytes4_lt h1 x h
 ·exact Sha.bytes4_lt h2 x h
 ·exact Sha.bytes4_lt h3 x h
 ·exact Sha.bytes4_lt h4 x h
 ·exact Sha.bytes4_lt h5 x h
 ·exact Sha.bytes4_lt h6 x h
 ·exact Sha.bytes4_lt h7 x h
 ·exact Sha.bytes4_lt h8 x h
theorem Vb(tag:Nat)(ps:List (List Nat)):∀ x∈Sha.ofD tag ps,x<256:=fun x hx=>Va _ x (List.mem_of_mem_take hx)
theorem Bv(tag:Nat)(ps:List (List Nat)):(Sha.ofD tag ps).length=16:=by
 unfold Sha.ofD;rw[List.length_take,show (Sha.sum (Sha.input tag ps)).length=32 from rfl];rfl
structure dm(s:List Nat):Prop where
 len:s.length=16
 lt:∀ x∈s,x<256
theorem qC(tag:Nat)(ps:List (List Nat)):dm (Sha.ofD tag ps):=⟨Bv tag ps,Vb tag ps⟩
theorem JW:dm fH:=⟨rfl,aK⟩
theorem Bz(k:aj)(t:bz):dm (eU k t):=by
 unfold eU;exact JX
theorem JY(d:Nat)(h:d<10):Lib.digitVal (UInt8.ofNat (48+d))=some d:=by
 unfold Lib.digitVal;have e:(UInt8.ofNat (48+d)).toNat=48+d:=by rw[UInt8.toNat_ofNat'];omega
 rw[e,if_pos aB];congr 1;omega
theorem Vd(u:Nat):∀(acc:Nat)(r:List UInt8),Lib.decFrom acc (Lib.decDigits u++r)=Lib.decFrom (acc*10 ^ Lib.nDigits u+u) r:=by
 induction u using Nat.strongRecOn with
 | _ u ih =>
  intro acc r;by_cases h:u<10
  ·rw[Lib.decDigits,dif_pos h,Lib.nDigits_small h];simp only[List.cons_append,List.nil_append,Lib.decFrom,JY u h,Nat.pow_one]
  ·rw[Lib.decDigits,dif_neg h,Lib.nDigits_big h,List.append_assoc,ih (u / 10) aB];simp only[List.cons_append,List.nil_append,Lib.decFrom,JY (u % 10) aB];congr 1;rw[Nat.pow_succ,Nat.add_mul,<-Nat.mul_assoc];omega
theorem CE(u:Nat):∀ b∈Lib.decDigits u,48<=b.toNat/\b.toNat<=57:=by
 induction u using Nat.strongRecOn with
 | _ u ih =>
  intro b hb;by_cases h:u<10
  ·rw[Lib.decDigits,dif_pos h,List.mem_singleton]at hb;subst hb;rw[UInt8.toNat_ofNat'];omega
  ·rw[Lib.decDigits,dif_neg h,List.mem_append,List.mem_singleton]at hb;rcases hb with hb | rfl
   ·exact ih (u / 10) aB b hb
   ·rw[UInt8.toNat_ofNat'];omega
theorem JZ:∀(k u:Nat),u<10 ^ (k+1)->Lib.nDigits u<=k+1
 | 0,u,h=>by rw[Lib.nDigits_small nD];omega
 | k+1,u,h=>by
  by_cases h1:u<10
  ·rw[Lib.nDigits_small h1];omega
  ·rw[Lib.nDigits_big h1];have:=JZ k (u / 10) (by rw[Nat.pow_succ]at h;omega);omega
theorem Ja(u:Nat)(h:u<=1099511627777):(Lib.decDigits u).length<=13/\1<=(Lib.decDigits u).length:=by
 rw[Lib.decDigits_length];exact⟨JZ 12 u aB,Lib.nDigits_pos u⟩
theorem yO(n:Int)(h:0<=n):(ai n).data.toList=Lib.decDigits n.toNat:=by
 unfold ai Lib.itoa;rw[if_neg aB]
theorem Jb(u:Nat):Lib.decFrom 0 (Lib.decDigits u)=some u:=by
 have:=Vd u 0 [];rw[List.append_nil]at this;rw[this];simp[Lib.decFrom]
def sJ(s:aC):Int:=if s.size=0\/15<s.size then -1 else match Lib.decFrom 0 s.data.toList with
 | some n=>n
 | none=>-1
theorem Ve(n:Int)(h0:0<=n)(h1:n<=1099511627777):sJ (ai n)=n:=by
 have hl:=Ja n.toNat aB;unfold sJ;rw[Lib.size_eq,yO n h0,if_neg aB,Jb];show ((n.toNat:Nat):Int)=n;omega
def af(s:aC):Int:=match Lib.atoiAll s.data.toList with
 | .ok v=>v
 | .«syntax»=>0
 | .range=>Lib.atoiSat s.data.toList
def dH(s:aC):Bool:=match Lib.atoiAll s.data.toList with
 | .ok _=>false
 | _=>true
theorem Vf(n:Int)(h0:0<=n)(h1:n<=1099511627777):Lib.atoiAll (ai n).data.toList=.ok n:=by
 have hl:=Ja n.toNat aB;rw[yO n h0,Lib.atoiAll_short _ aB];have hd:=CE n.toNat;have hz:=Jb n.toNat;have hn:((n.toNat:Nat):Int)=n:=aB;cases hc:Lib.decDigits n.toNat with
 | nil=>rw[hc]at hl;simp at hl
 | cons b r =>
  rw[hc]at hd hz;have hb:=hd b aH;have e1:(b==45)=false:=Jc;have e2:(b==43)=false:=Jc;simp only[Lib.atoi,e1,e2,Lib.decNat,List.isEmpty_cons,hz];simp[Lib.NumEnd.ofOption,hn]
theorem pO(n:Int)(h0:0<=n)(h1:n<=1099511627777):af (ai n)=n/\dH (ai n)=false:=by
 unfold af dH;rw[Vf n h0 h1];exact⟨rfl,rfl⟩
theorem Jd(c:UInt8):∀(x:List UInt8)(l:List (List UInt8)),c ∉ x->(∀ y∈l,c ∉ y)->dO c (x++Lib.joinTail [c] l)=x :: l
 | x,[],hx,_=>by simp[Lib.joinTail];exact Fa x c hx
 | x,y :: l,hx,hl=>by
  have e:Lib.joinTail [c] (y :: l)=c :: (y++Lib.joinTail [c] l):=by simp[Lib.joinTail]
  rw[e,FZ x _ c hx,Jd c y l (hl y aH) (fun z hz=>hl z (by simp[hz]))]
theorem CG(c:UInt8)(zs:List aC)(h0:zs ≠ [])(h:∀ z∈zs,c ∉ z.data.toList):splitB c ⟨(Lib.join (zs.map (·.data.toList)) [c]).toArray⟩=zs:=by
 cases zs with
 | nil=>exact absurd rfl h0
 | cons x l =>
  unfold splitB;rw[List.map_cons,Lib.join_cons];show (dO c (x.data.toList++Lib.joinTail [c] (l.map (·.data.toList)))).map _=_;rw[Jd c x.data.toList _ (h x aH) (by
   intro y hy;obtain⟨z,hz,rfl⟩:=List.mem_map.1 hy;exact h z (by simp[hz]))]
  have:∀ z:aC,(⟨z.data.toList.toArray⟩:aC)=z:=fun z=>fK rfl
  simp[Function.comp_def,this]
theorem vF(b:UInt8)(h:jW b=true):b≠32/\b≠44/\b≠126:=by
 refine⟨?_,?_,?_⟩ <;> (rintro rfl;revert h;decide)
theorem CP{s:aC}(h:bU s=true):s.size≠0/\32 ∉ s.data.toList/\44 ∉ s.data.toList/\126 ∉ s.data.toList:=by
 have hw:=mD (nI h);have h1:=(xP (nI h)).1;refine⟨fun e=>h1 (List.eq_nil_of_length_eq_zero (by rw[<-Lib.size_eq];exact e)),fun hm=>(vF _ (hw _ hm)).1 rfl,fun hm=>(vF _ (hw _ hm)).2.1 rfl,fun hm=>(vF _ (hw _ hm)).2.2 rfl⟩
theorem CQ{s:aC}(h:iV s=true):s.size≠0/\32 ∉ s.data.toList/\44 ∉ s.data.toList/\126 ∉ s.data.toList:=by
 unfold iV at h;simp only[Bool.and_eq_true,decide_eq_true_eq,List.all_eq_true]at h;obtain⟨h1,h2⟩:=h;refine⟨aB,fun hm=>?_,fun hm=>?_,fun hm=>?_⟩ <;> exact absurd (h2 _ hm) aK
theorem pR(n:Int)(h0:0<=n):(ai n).size≠0/\32 ∉ (ai n).data.toList/\44 ∉ (ai n).data.toList/\126 ∉ (ai n).data.toList:=by
 have hd:=CE n.toNat;have hl:1<=(Lib.decDigits n.toNat).length:=by rw[Lib.decDigits_length];exact Lib.nDigits_pos _
 rw[Lib.size_eq,yO n h0];refine⟨aB,fun hm=>?_,fun hm=>?_,fun hm=>?_⟩ <;> exact absurd (hd _ hm) aK
theorem Je{p:bI}(hp:gU p):∀ b∈(dQ p.kind p.text).data.toList,jW b=true\/b=42:=by
 intro b hb;rw[qQ]at hb;rcases hp with ⟨hk,hw⟩ | ⟨hk,s,hs,hs2,ht⟩ | ⟨hk,ht⟩
 ·rw[if_pos hk]at hb;exact .inl (mD hw b hb)
 ·rw[if_neg aB,ht]at hb;simp only[List.mem_cons]at hb;rcases hb with rfl | rfl | hb
  ·exact .inr rfl
  ·exact .inl aK
  ·exact .inl (mD hs b hb)
 ·rw[if_neg aB,ht]at hb;simp only[List.mem_cons]at hb;rcases hb with rfl | hb
  ·exact .inr rfl
  ·exact absurd hb aH
theorem Jf{z:Pat}(hz:lK z):∀ b∈(jq z).data.toList,jW b=true\/b=42\/b=47:=by
 intro b hb;rw[yD,yB,List.mem_append]at hb;rcases hb with hb | hb
 ·rcases Je hz.cust.part b hb with h | h
  ·exact .inl h
  ·exact .inr (.inl h)
 ·unfold dF at hb;rw[List.mem_flatMap]at hb;obtain⟨l,hl,hb⟩:=hb;simp only[List.mem_cons]at hb;rcases hb with rfl | hb
  ·exact .inr (.inr rfl)
  ·unfold az at hl;obtain⟨y,hy,rfl⟩:=List.mem_map.1 hl;rw[List.mem_append]at hy;rcases hy with hy | hy
   ·unfold dX at hy;obtain⟨p,hp,rfl⟩:=List.mem_map.1 hy;rcases Je (hz.parts p hp) b hb with h | h
    ·exact .inl h
    ·exact .inr (.inl h)
   ·unfold iG at hy;split at hy
    ·simp only[List.mem_singleton]at hy;subst hy;simp only[List.mem_cons,List.not_mem_nil,or_false]at hb;rcases hb with rfl | rfl <;> exact .inr (.inl rfl)
    ·exact absurd hy aH
theorem Jg{p:aC}(h:gY p=true):32 ∉ p.data.toList/\126 ∉ p.data.toList:=by
 by_cases h0:p.size=0
 ·have:p.data.toList=[]:=List.eq_nil_of_length_eq_zero xZ;rw[this];simp
 ·obtain⟨x,hx⟩:=yE h h0;rw[<-Hr hx];have hb:=Jf (rZ hx);refine⟨fun hm=>?_,fun hm=>?_⟩
  ·rcases hb _ hm with h | h | h
   ·exact (vF _ h).1 rfl
   ·exact absurd h aK
   ·exact absurd h aK
  ·rcases hb _ hm with h | h | h
   ·exact (vF _ h).2.2 rfl
   ·exact absurd h aK
   ·exact absurd h aK
def cZ(s:aC):List aC:=if s.data.toList=[126] then [] else splitB 44 s
def unT(s:aC):aC:=if s.data.toList=[126] then ⟨#[]⟩ else s
theorem Vg{x:aC}{r:List aC}(h0:x.size≠0):∃ b t,b∈x.data.toList/\(jr (x :: r)).data.toList=b :: t:=by
 unfold jr;rw[List.map_cons,Lib.join_cons];cases hx:x.data.toList with
 | nil=>rw[Lib.size_eq,hx]at h0;simp at h0
 | cons b t=>exact⟨b,_,aH,rfl⟩
theorem sK(xs:List aC)(c:UInt8)(hc:c≠44)(hc2:c≠126)(h:∀ x∈xs,c ∉ x.data.toList):c ∉ (dn xs).data.toList:=by
 unfold dn orT;split
 ·intro hm;simp only[List.mem_cons,List.not_mem_nil,or_false]at hm;exact hc2 hm
 ·unfold jr;cases xs with
  | nil=>simp[Lib.join_nil]
  | cons x l =>
   rw[List.map_cons,Lib.join_cons];intro hm;rcases List.mem_append.1 hm with hm | hm
   ·exact h x aH hm
   ·have:∀ l:List aC,(∀ x∈l,c ∉ x.data.toList)->c ∉ Lib.joinTail [44] (l.map (·.data.toList)):=by
     intro l;induction l with
     | nil=>intro _;simp[Lib.joinTail]
     | cons y l ih =>
      intro hy;have e:Lib.joinTail [44] ((y :: l).map (·.data.toList))=44 :: (y.data.toList++Lib.joinTail [44] (l.map (·.data.toList))):=by simp[Lib.joinTail]
      rw[e];simp only[List.mem_cons,List.mem_append,not_or];exact⟨hc,hy y aH,ih (fun x hx=>hy x gB)⟩
    exact this l (fun x hx=>h x gB) hm
theorem yP(xs:List aC)(h:∀ x∈xs,x.size≠0/\44 ∉ x.data.toList/\126 ∉ x.data.toList):cZ (dn xs)=xs:=by
 cases xs with
 | nil=>unfold dn orT jr;rfl
 | cons x r =>
  obtain⟨b,t,hb,he⟩:=Vg (r:=r) (h x aH).1;have hs:¬ (jr (x :: r)).size=0:=by rw[Lib.size_eq,he];simp
  unfold dn orT cZ;rw[if_neg hs,if_neg (by
   rw[he];intro e;injection e with e1 e2
   subst e1;exact (h x aH).2.2 hb)]
  exact CG 44 (x :: r) aH (fun z hz=>(h z hz).2.1)
theorem Vh{p:aC}(h:126 ∉ p.data.toList):unT (orT p ⟨#[126]⟩)=p:=by
 unfold orT unT;by_cases h0:p.size=0
 ·rw[if_pos h0,if_pos rfl];exact (fK (by
   have:p.data.toList=[]:=List.eq_nil_of_length_eq_zero xZ;rw[this])).symm
 ·rw[if_neg h0,if_neg (fun e=>h (by rw[e];simp))]
def aT:aC:=⟨#[126]⟩
def fP(num:aC->Int)(f:List aC):aY :=
 ⟨num (f.getD 0 aT),num (f.getD 1 aT),unT (f.getD 2 aT),cZ (f.getD 3 aT),cZ (f.getD 4 aT),(cZ (f.getD 5 aT)).map num,num (f.getD 6 aT)⟩
def qc(f:List aC):Bool:=!decide (f.length=7)||dH (f.getD 0 aT)||dH (f.getD 1 aT)||(cZ (f.getD 5 aT)).any dH||dH (f.getD 6 aT)
def pU(s:aC):Option aY:=if (splitB 32 s).length=7/\bF (fP sJ (splitB 32 s))=true/\bK (fP sJ (splitB 32 s))=s then some (fP sJ (splitB 32 s)) else none
def eF(s:aC):Option aY:=if qc (splitB 32 s)=false/\bF (fP af (splitB 32 s))=true/\bK (fP af (splitB 32 s))=s then some (fP af (splitB 32 s)) else none
theorem Vj{c:aY}(hc:jc c):∀ z∈kV c,32 ∉ z.data.toList:=by
 have a0:=hc.fr0;have a1:=hc.to0;have a2:=hc.us0;have hp:32 ∉ (orT c.pat ⟨#[126]⟩).data.toList:=by
  unfold orT;split
  ·decide
  ·exact (Jg hc.pat).1
 have hsi:∀ x∈c.si.map ai,32 ∉ x.data.toList:=by
  exact Jh
 intro z hz;unfold kV at hz;simp only[List.mem_cons,List.not_mem_nil,or_false]at hz;rcases hz with rfl | rfl | rfl | rfl | rfl | rfl | rfl
 ·exact (pR _ a0).2.1
 ·exact (pR _ a1).2.1
 ·exact hp
 ·exact sK _ 32 aK aK (fun x hx=>(CP (hc.cl x hx)).2.1)
 ·exact sK _ 32 aK aK (fun x hx=>(CQ (hc.co x hx)).2.1)
 ·exact sK _ 32 aK aK hsi
 ·exact (pR _ a2).2.1
theorem Ji{c:aY}(hc:jc c):splitB 32 (bK c)=kV c:=CG 32 (kV c) (by simp[kV]) (Vj hc)
theorem Jj{c:aY}(hc:jc c)(num:aC->Int)(hn:∀ n:Int,0<=n->n<=1099511627777->num (ai n)=n):fP num (kV c)=c:=by
 have a0:=hc.fr0;have a1:=hc.to0;have a2:=hc.us0;have b0:=hc.fr1;have b1:=hc.to1;have b2:=hc.us1;have hs:∀ n∈c.si,0<=n/\n<64:=by
  intro n hn;have:=hc.si n hn;unfold jb at this;simpa using this
 have e1:cZ (dn c.cl)=c.cl:=yP _ (fun x hx=>⟨(CP (hc.cl x hx)).1,(CP (hc.cl x hx)).2.2⟩);have e2:cZ (dn c.co)=c.co:=yP _ (fun x hx=>⟨(CQ (hc.co x hx)).1,(CQ (hc.co x hx)).2.2⟩);have e3:cZ (dn (c.si.map ai))=c.si.map ai:=yP _ (fun x hx=>by
  obtain⟨n,hn,rfl⟩:=List.mem_map.1 hx;exact⟨(pR n (hs n hn).1).1,(pR n (hs n hn).1).2.2⟩)
 have e4:(c.si.map ai).map num=c.si:=by
  rw[List.map_map]
  conv=>rhs;rw[<-List.map_id c.si]
  exact List.map_congr_left fun n hm=>hn n (hs n hm).1 (by have:=(hs n hm).2;omega)
 unfold fP kV;simp only[bV];rw[hn _ a0 aB,hn _ a1 b1,hn _ a2 aB,e1,e2,e3,e4,Vh (Jg hc.pat).2]
theorem Vk{c:aY}(hc:jc c):qc (kV c)=false:=by
 have a0:=hc.fr0;have a1:=hc.to0;have a2:=hc.us0;have b0:=hc.fr1;have b1:=hc.to1;have b2:=hc.us1;have hs:∀ n∈c.si,0<=n/\n<64:=by
  intro n hn;have:=hc.si n hn;unfold jb at this;simpa using this
 have e3:cZ (dn (c.si.map ai))=c.si.map ai:=yP _ (fun x hx=>by
  obtain⟨n,hn,rfl⟩:=List.mem_map.1 hx;exact⟨(pR n (hs n hn).1).1,(pR n (hs n hn).1).2.2⟩)
 have e4:(c.si.map ai).any dH=false:=by
  rw[List.any_eq_false];intro x hx;obtain⟨n,hn,rfl⟩:=List.mem_map.1 hx;rw[(pO n (hs n hn).1 (by have:=(hs n hn).2;omega)).2];decide
 unfold qc kV;simp only[bV];rw[e3,e4,(pO _ a0 aB).2,(pO _ a1 b1).2,(pO _ a2 aB).2];rfl
theorem Vl{c:aY}(h:bF c=true):pU (bK c)=some c:=by
 have hc:=(mP c).1 h;unfold pU;rw[Ji hc,Jj hc sJ Ve,if_pos ⟨rfl,h,rfl⟩]
theorem CS{c:aY}(h:bF c=true):eF (bK c)=some c:=by
 have hc:=(mP c).1 h;unfold eF;rw[Ji hc,Jj hc af (fun n h0 h1=>(pO n h0 h1).1),if_pos ⟨Vk hc,h,rfl⟩]
theorem Vm{s:aC}{c:aY}(h:pU s=some c):bF c=true/\bK c=s:=by
 unfold pU at h;split at h
 ·rename_i h1;injection h with h;subst h;exact h1.2
 ·cases h
theorem Vo{s:aC}{c:aY}(h:eF s=some c):bF c=true/\bK c=s:=by
 unfold eF at h;split at h
 ·rename_i h1;injection h with h;subst h;exact h1.2
 ·cases h
theorem Vp(s:aC):eF s=pU s:=by
 cases h:eF s with
 | some c =>
  obtain⟨h1,h2⟩:=Vo h;rw[<-h2,Vl h1]
 | none =>
  cases h3:pU s with
  | none=>rfl
  | some c =>
   obtain⟨h1,h2⟩:=Vm h3;rw[<-h2,CS h1]at h;cases h
def iZ(n:Nat):UInt8:=if n<10 then UInt8.ofNat (48+n) else UInt8.ofNat (87+n)
def jf(s:List Nat):List UInt8:=s.flatMap fun n=>[iZ (n / 16),iZ (n % 16)]
def kC(s:List Nat):aC:=⟨(jf s).toArray⟩
def jO(b:UInt8):Nat:=if 48<=b.toNat/\b.toNat<=57 then b.toNat-48 else if 97<=b.toNat/\b.toNat<=102 then b.toNat-87 else 16
def lU:List UInt8->Option (List Nat)
 | []=>some []
 | [_]=>none
 | a :: b :: r=>if jO a<16/\jO b<16 then (lU r).map ((16*jO a+jO b) :: ·) else none
def ig(t:bz):List aC:=ai t.cust :: ai t.ser :: t.id :: (t.conds.map bK++[kC t.sl])
def jF(t:bz):aC:=yM 59 (ig t)
theorem yQ:∀ n,n<16->jO (iZ n)=n/\iZ n≠59:=by decide
theorem CU:∀ s:List Nat,(∀ x∈s,x<256)->lU (jf s)=some s
 | [],_=>rfl
 | n :: s,h=>by
  have hn:n<256:=h n aH;have e:jf (n :: s)=iZ (n / 16) :: iZ (n % 16) :: jf s:=rfl;have h1:=(yQ (n / 16) aB).1;have h2:=(yQ (n % 16) aB).1;rw[e,lU,h1,h2,if_pos aB,CU s (fun x hx=>h x gB)];show some ((16*(n / 16)+n % 16) :: s)=_;rw[show 16*(n / 16)+n % 16=n by omega]
theorem Jk(b:UInt8)(h:jW b=true):b≠59:=by rintro rfl;revert h;decide
theorem sN(n:Int)(h0:0<=n):59 ∉ (ai n).data.toList:=by
 rw[yO n h0];intro hm;exact absurd (CE n.toNat _ hm) aK
theorem Jl{s:aC}(h:bU s=true):59 ∉ s.data.toList:=fun hm=>Jk _ (mD (nI h) _ hm) rfl
theorem Vq{s:aC}(h:iV s=true):59 ∉ s.data.toList:=by
 unfold iV at h;simp only[Bool.and_eq_true,decide_eq_true_eq,List.all_eq_true]at h;exact fun hm=>absurd (h.2 _ hm) aK
theorem Vr{p:aC}(h:gY p=true):59 ∉ p.data.toList:=by
 by_cases h0:p.size=0
 ·have:p.data.toList=[]:=List.eq_nil_of_length_eq_zero xZ;rw[this];simp
 ·obtain⟨x,hx⟩:=yE h h0;rw[<-Hr hx];have hb:=Jf (rZ hx);intro hm;rcases hb _ hm with h | h | h
  ·exact Jk _ h rfl
  ·exact absurd h aK
  ·exact absurd h aK
theorem Vs(d:UInt8)(l:List (List UInt8))(b:UInt8)(hb:b∈Lib.join l [d]):b=d\/∃ x∈l,b∈x:=by
 cases l with
 | nil=>rw[Lib.join_nil]at hb;simp at hb
 | cons x l =>
  rw[Lib.join_cons]at hb;rcases List.mem_append.1 hb with hb | hb
  ·exact .inr ⟨x,aH,hb⟩
  ·have:∀ l:List (List UInt8),b∈Lib.joinTail [d] l->b=d\/∃ x∈l,b∈x:=by
    intro l;induction l with
    | nil=>intro h;simp[Lib.joinTail]at h
    | cons y l ih =>
     intro h;have e:Lib.joinTail [d] (y :: l)=d :: (y++Lib.joinTail [d] l):=by simp[Lib.joinTail]
     rw[e]at h;rcases List.mem_cons.1 h with h | h
     ·exact .inl h
     ·rcases List.mem_append.1 h with h | h
      ·exact .inr ⟨y,aH,h⟩
      ·rcases ih h with h | ⟨x,hx,h⟩
       ·exact .inl h
       ·exact .inr ⟨x,gB,h⟩
   rcases this l hb with h | ⟨x,hx,h⟩
   ·exact .inl h
   ·exact .inr ⟨x,gB,h⟩
theorem Vt{c:aY}(h:bF c=true):59 ∉ (bK c).data.toList:=by
 have hc:=(mP c).1 h;have a0:=hc.fr0;have a1:=hc.to0;have a2:=hc.us0;have hsi:∀ x∈c.si.map ai,59 ∉ x.data.toList:=by
  exact Jh
 intro hm;rcases Vs 32 _ _ hm with h | ⟨x,hx,hb⟩
 ·exact absurd h aK
 obtain⟨z,hz,rfl⟩:=List.mem_map.1 hx;unfold kV at hz;simp only[List.mem_cons,List.not_mem_nil,or_false]at hz;rcases hz with rfl | rfl | rfl | rfl | rfl | rfl | rfl
 ·exact sN _ a0 hb
 ·exact sN _ a1 hb
 ·unfold orT at hb;split at hb
  ·simp at hb
  ·exact Vr hc.pat hb
 ·exact sK _ 59 aK aK (fun x hx=>Jl (hc.cl x hx)) hb
 ·exact sK _ 59 aK aK (fun x hx=>Vq (hc.co x hx)) hb
 ·exact sK _ 59 aK aK hsi hb
 ·exact sN _ a2 hb
structure vG(t:bz):Prop where
 c0:1<=t.cust
 c1:t.cust<=1073741824
 s0:1<=t.ser
 s1:t.ser<=1073741824
 id:bU t.id=true
 n0:1<=t.conds.length
 n1:t.conds.length<=16
 all:∀ c∈t.conds,bF c=true
theorem vH(t:bz):gX t=true↔vG t:=by
 unfold gX Bo pM;simp only[Bool.and_eq_true,decide_eq_true_eq,List.all_eq_true];constructor
 ·rintro⟨⟨⟨⟨⟨a,b⟩,c,d⟩,e⟩,f,g⟩,h⟩;exact⟨a,b,c,d,e,f,g,h⟩
 ·rintro⟨a,b,c,d,e,f,g,h⟩;exact⟨⟨⟨⟨⟨a,b⟩,c,d⟩,e⟩,f,g⟩,h⟩
theorem Vu{t:bz}(ht:vG t)(hs:dm t.sl):∀ z∈ig t,59 ∉ z.data.toList:=by
 have a0:=ht.c0;have a1:=ht.s0;intro z hz;unfold ig at hz;simp only[List.mem_cons,List.mem_append,List.not_mem_nil,or_false]at hz;rcases hz with rfl | rfl | rfl | hz | rfl
 ·exact sN _ aB
 ·exact sN _ aB
 ·exact Jl ht.id
 ·obtain⟨c,hc,rfl⟩:=List.mem_map.1 hz;exact Vt (ht.all c hc)
 ·intro hm;obtain⟨n,hn,hb⟩:=List.mem_flatMap.1 (show (59:UInt8)∈jf t.sl from hm);have hlt:=hs.lt n hn;simp only[List.mem_cons,List.not_mem_nil,or_false]at hb;rcases hb with hb | hb
  ·exact (yQ (n / 16) aB).2 hb.symm
  ·exact (yQ (n % 16) aB).2 hb.symm
theorem Vw{t:bz}(ht:vG t)(hs:dm t.sl):splitB 59 (jF t)=ig t:=CG 59 (ig t) (by simp[ig]) (Vu ht hs)
def sO(num:aC->Int)(rd:aC->Option aY)(f:List aC):bz :=
 ⟨num (f.getD 0 aT),num (f.getD 1 aT),f.getD 2 aT,((f.drop 3).dropLast).map (fun x=>(rd x).getD ed),(lU (f.getLastD aT).data.toList).getD fH⟩
def okF(rd:aC->Option aY)(f:List aC):Bool:=decide (5<=f.length/\f.length<=20)&&((f.drop 3).dropLast).all (fun x=>(rd x).isSome)&&decide ((f.getLastD aT).size=32)&&(lU (f.getLastD aT).data.toList).isSome
def ik(s:aC):Bool:=!dH s&&decide (ai (af s)=s)
def nU(s:aC):Option bz :=
 if okF eF (splitB 59 s)&&ik ((splitB 59 s).getD 0 aT)&&ik ((splitB 59 s).getD 1 aT)&&gX (sO af eF (splitB 59 s)) then some (sO af eF (splitB 59 s)) else none
theorem Vx(s:List Nat)(h:s.length=16):(kC s).size=32:=by
 have:∀ s:List Nat,(jf s).length=2*s.length:=by
  intro s;induction s with
  | nil=>rfl
  | cons n s ih=>show (iZ (n / 16) :: iZ (n % 16) :: jf s).length=_;simp[ih];omega
 rw[Lib.size_eq];show (jf s).length=32;rw[this,h]
theorem Jm{α:Type}(l:List α)(z d:α):(l++[z]).getLastD d=z:=by simp[List.getLastD_eq_getLast?]
theorem Vy{t:bz}(ht:vG t)(hs:dm t.sl)(rd:aC->Option aY)(hr:∀ c,bF c=true->rd (bK c)=some c):okF rd (ig t)=true:=by
 have n0:=ht.n0;have n1:=ht.n1;have e3:(ig t).drop 3=t.conds.map bK++[kC t.sl]:=rfl;have e4:(ig t).getLastD aT=kC t.sl:=Jm (ai t.cust :: ai t.ser :: t.id :: t.conds.map bK) _ _;have el:(ig t).length=t.conds.length+4:=by unfold ig;simp
 unfold okF;rw[e3,e4,el,List.dropLast_concat,Vx _ hs.len,show (kC t.sl).data.toList=jf t.sl from rfl,CU _ hs.lt];have ha:(t.conds.map bK).all (fun x=>(rd x).isSome)=true:=by
  rw[List.all_eq_true];intro x hx;obtain⟨c,hc,rfl⟩:=List.mem_map.1 hx;rw[hr c (ht.all c hc)];rfl
 rw[ha,decide_eq_true (show 5<=t.conds.length+4/\t.conds.length+4<=20 by omega)];rfl
theorem Vz{t:bz}(ht:vG t)(hs:dm t.sl)(num:aC->Int)(rd:aC->Option aY)(hn:∀ n:Int,1<=n->n<=1073741824->num (ai n)=n)(hr:∀ c,bF c=true->rd (bK c)=some c):sO num rd (ig t)=t:=by
 have e3:(ig t).drop 3=t.conds.map bK++[kC t.sl]:=rfl;have e4:(ig t).getLastD aT=kC t.sl:=Jm (ai t.cust :: ai t.ser :: t.id :: t.conds.map bK) _ _;have e5:(t.conds.map bK).map (fun x=>(rd x).getD ed)=t.conds:=by
  rw[List.map_map]
  conv=>rhs;rw[<-List.map_id t.conds]
  exact List.map_congr_left fun c hc=>by show (rd (bK c)).getD ed=c;rw[hr c (ht.all c hc)];rfl
 unfold sO;rw[e3,e4,List.dropLast_concat,show (kC t.sl).data.toList=jf t.sl from rfl,CU _ hs.lt,e5];show (⟨num (ai t.cust),num (ai t.ser),t.id,t.conds,t.sl⟩:bz)=t;rw[hn _ ht.c0 ht.c1,hn _ ht.s0 ht.s1]
theorem Jn{n:Int}(h0:0<=n)(h1:n<=1099511627777):ik (ai n)=true:=by
 unfold ik;rw[(pO n h0 h1).1,(pO n h0 h1).2];simp
theorem V3{t:bz}(h:gX t=true)(hs:dm t.sl):nU (jF t)=some t:=by
 have ht:=(vH t).1 h;have a0:=ht.c0;have a1:=ht.c1;have b0:=ht.s0;have b1:=ht.s1;unfold nU;rw[Vw ht hs,Vy ht hs eF (fun c hc=>CS hc),Vz ht hs af eF (fun n h0 h1=>(pO n aB aB).1) (fun c hc=>CS hc),h];show (if true&&ik (ai t.cust)&&ik (ai t.ser)&&true then some t else none)=some t;rw[Jn aB aB,Jn aB aB];rfl
attribute [local go_sem] Oper.semAt_some
theorem yR{w:World}{A:Option Addr}{n:Nat}{vs:List Value}(hR:aI w 1 A n vs):0<n->∀ a,A=some a->a.block<w.heap.size:=by
 intro hn a ha;obtain⟨b,o,e,hc⟩:=hR.2 hn;rw[e]at ha;injection ha with ha
 subst ha;have hl:0<vs.length:=by have:=hR.1;omega
 have:=bu (hc 0 _ (List.getElem?_eq_getElem hl));exact this
end Go.Proofs.YtlkbkclnbppigaaGreatDoor
