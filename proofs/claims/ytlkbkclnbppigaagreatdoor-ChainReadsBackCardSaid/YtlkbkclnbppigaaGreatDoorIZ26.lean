/- Plain: what the policy package says of a rule, a stamp and a period. -/
import Derived.Test.YtlkbkclnbppigaaGreatDoorIZ24
import Derived.Laws.EntriesVeiled
namespace Go.Proofs.YtlkbkclnbppigaaGreatDoor
open Go.RowKit Go.Sort
set_option linter.unusedVariables false
set_option linter.unusedSimpArgs false
set_option maxRecDepth 100000
structure D16 where
 (a0 a1 a2 a3 a4 a5 a6 a7 a8 a9 a10 a11 a12 a13 a14 a15:Int)
structure StampV where
 addr:ByteArray
 variant:ByteArray
 status:Int
 size:Int
 body:D16
 tags:ByteArray
 lo:Int
 hi:Int
 gate:Int
 serial:Int
 seal_:D16
def StampV.cells (s:StampV):List Value:=[.string s.addr,.string s.variant,.int .i64 s.status,.int .i64 s.size,
 .int .u8 s.body.a0,.int .u8 s.body.a1,.int .u8 s.body.a2,.int .u8 s.body.a3,.int .u8 s.body.a4,.int .u8 s.body.a5,.int .u8 s.body.a6,.int .u8 s.body.a7,.int .u8 s.body.a8,.int .u8 s.body.a9,.int .u8 s.body.a10,.int .u8 s.body.a11,.int .u8 s.body.a12,.int .u8 s.body.a13,.int .u8 s.body.a14,.int .u8 s.body.a15,
 .string s.tags,.int .i64 s.lo,.int .i64 s.hi,.int .i64 s.gate,.int .i64 s.serial,
 .int .u8 s.seal_.a0,.int .u8 s.seal_.a1,.int .u8 s.seal_.a2,.int .u8 s.seal_.a3,.int .u8 s.seal_.a4,.int .u8 s.seal_.a5,.int .u8 s.seal_.a6,.int .u8 s.seal_.a7,.int .u8 s.seal_.a8,.int .u8 s.seal_.a9,.int .u8 s.seal_.a10,.int .u8 s.seal_.a11,.int .u8 s.seal_.a12,.int .u8 s.seal_.a13,.int .u8 s.seal_.a14,.int .u8 s.seal_.a15]
def StampV.val (s:StampV):Value:=.agg s.cells.toArray
open Go.Maps
def perV (lo hi:Int):Value:=.agg #[.int .i64 lo,.int .i64 hi]
end Go.Proofs.YtlkbkclnbppigaaGreatDoor
namespace Go.Proofs.YtlkbkclnbppigaaGreatDoor
open Go.RowKit Go.Sort
set_option linter.unusedVariables false
set_option linter.unusedSimpArgs false
set_option maxRecDepth 100000
def sepT (d:UInt8) (xs:List ByteArray):ByteArray:=⟨(Lib.join (xs.map (·.data.toList)) [d]).toArray⟩
theorem sep_any (d:UInt8) (A:Option Addr) (n c:Nat) (ws:List ByteArray) (W:World) (base:Nat) (hown:W.ownsRow base 9 1 (.slice A n c) n (ws.map .string)) (hlen:(Lib.join (ws.map (·.data.toList)) [d]).length≤140737488355328) (hn:n≤1000000) :
  Calls Tryz.prog 72 #[.slice A n c,.string ⟨#[d]⟩] W (Ret W (.string (sepT d ws))):=by
 have hl:ws.length=n:=by have:=hown.1;simpa using this
 rcases hown.2 with ⟨h,h0⟩ | ⟨g',cap,cur,he,hb,hh,h1,h2,h3,h4⟩
 ·injection h with e1 e2 e3
  subst e1
  subst h0
  obtain rfl:ws=[]:=List.eq_nil_of_length_eq_zero hl
  refine (Tryz.strings_Join_none none c ⟨#[d]⟩ W).mono fun e w' ⟨h5,h6⟩=>⟨?_,by rw[h6];exact Below.refl _ _⟩
  rw[h5]
  rfl
 ·injection he with e1 e2 e3
  subst e1;subst e3
  have hcells:=World.ownsRow.cells hown (g:=g') rfl
  have:=Tryz.strings_Join g' 0 c ws ⟨#[d]⟩ W (by
   intro j x hx
   have h9:=hcells j (.string x) (by simp[hx])
   unfold Addr.add at h9
   split at h9 <;> simp_all) ((hown.lt g' rfl).2) (by omega) (by omega) hlen
  rw[hl]at this
  exact this
structure KeyV where
 party:Int
 ser:Int
 secret:ByteArray
 fr:Int
 till:Int
structure TokV where
 cust:Int
 ser:Int
 id:ByteArray
 conds:List CondV
 sl:List Nat
def partyB (n:Int):Bool:=decide (1≤n∧n≤1073741824)
def validK (k:KeyV):Bool:=decide (1≤k.party∧k.party≤1073741824∧1≤k.ser∧k.ser≤1073741824∧1≤k.secret.size∧k.secret.size≤64∧0≤k.fr∧k.fr<k.till∧k.till≤1099511627776)
def countsK (k:KeyV) (lo hi:Int):Bool:=decide (0≤lo∧lo≤hi∧hi≤1099511627776∧k.fr≤lo∧hi<k.till)
def beforeK (a b:KeyV):Bool:=decide (a.party<b.party∨a.party=b.party∧a.ser<b.ser)
def zeroS:List Nat:=List.replicate 16 0
def zeroT:TokV:=⟨0,0,⟨#[]⟩,[],zeroS⟩
def zeroK:KeyV:=⟨0,0,⟨#[]⟩,0,0⟩
def idOk (t:TokV):Bool:=partyB t.cust&&partyB t.ser&&isNameB t.id
def validT (t:TokV):Bool:=idOk t&&decide (1≤t.conds.length∧t.conds.length≤16)&&t.conds.all validC
def makeS (k:KeyV) (tag:Nat) (ps:List ByteArray):List Nat:=Sha.ofD tag ((k.secret :: ps++[k.secret]).map nb)
def nextS (s:List Nat) (c:CondV):List Nat:=Sha.ofD 45 [s,nb (textC c)]
def firstS (k:KeyV) (t:TokV):List Nat:=makeS k 45 [t.id,textC (t.conds.headD zeroC)]
def rightS (k:KeyV) (t:TokV):List Nat:=t.conds.tail.foldl nextS (firstS k t)
def mintT (k:KeyV) (id:ByteArray) (c:CondV):TokV × Int :=
 if validK k&&validT ⟨k.party,k.ser,id,[c],zeroS⟩ then (⟨k.party,k.ser,id,[c],rightS k ⟨k.party,k.ser,id,[c],zeroS⟩⟩,0) else (zeroT,1)
def narrowT (t:TokV) (c:CondV):TokV × Int :=
 if validC c then (if 16≤t.conds.length then (zeroT,2) else (⟨t.cust,t.ser,t.id,t.conds++[c],nextS t.sl c⟩,0)) else (zeroT,1)
def identT (t:TokV):List Nat:=Sha.ofD 25 ([itoaB t.cust,itoaB t.ser,t.id].map nb)
def meanT (l:List CondV):CondV:=l.tail.foldl meetC (l.headD zeroC)
def findK (l:List KeyV) (party ser:Int):Option KeyV:=l.find? fun k=>decide (k.party=party∧k.ser=ser)
def genuineT (l:List KeyV) (t:TokV) (lo hi:Int):Int:=match findK l t.cust t.ser with
 | none=>5
 | some k=>if countsK k lo hi then (if rightS k t=t.sl then 0 else 8) else 9
def checkT (l:List KeyV) (t:TokV) (a:AskV):Int:=if genuineT l t a.lo a.hi=0 then (if t.conds.all fun c=>holdsC c a then 0 else 250) else genuineT l t a.lo a.hi
theorem st_lt:∀ (n:Nat) (s:Sha.St) (m:List Nat),(s.a<4294967296∧s.b<4294967296∧s.c<4294967296∧s.d<4294967296∧s.e<4294967296∧s.f<4294967296∧s.g<4294967296∧s.h<4294967296) →
  ((Sha.blocks n s m).a<4294967296∧(Sha.blocks n s m).b<4294967296∧(Sha.blocks n s m).c<4294967296∧(Sha.blocks n s m).d<4294967296∧(Sha.blocks n s m).e<4294967296∧(Sha.blocks n s m).f<4294967296∧(Sha.blocks n s m).g<4294967296∧(Sha.blocks n s m).h<4294967296)
 | 0,_,_,h=>h
 | n+1,s,m,_=>st_lt n (Sha.comp s m) (m.drop 64) ⟨Sha.add32_lt _ _,Sha.add32_lt _ _,Sha.add32_lt _ _,Sha.add32_lt _ _,Sha.add32_lt _ _,Sha.add32_lt _ _,Sha.add32_lt _ _,Sha.add32_lt _ _⟩
theorem sum_lt (m:List Nat):∀ x∈Sha.sum m,x<256:=by
 obtain⟨h1,h2,h3,h4,h5,h6,h7,h8⟩:=st_lt ((Sha.pad m).length / 64) Sha.st0 (Sha.pad m) (by unfold Sha.st0;decide)
 intro x hx
 unfold Sha.sum Sha.out at hx
 simp only[List.mem_append]at hx
 rcases hx with ((((((h | h) | h) | h) | h) | h) | h) | h
 ·exact Sha.bytes4_lt h1 x h
 ·exact Sha.bytes4_lt h2 x h
 ·exact Sha.bytes4_lt h3 x h
 ·exact Sha.bytes4_lt h4 x h
 ·exact Sha.bytes4_lt h5 x h
 ·exact Sha.bytes4_lt h6 x h
 ·exact Sha.bytes4_lt h7 x h
 ·exact Sha.bytes4_lt h8 x h
theorem ofD_lt (tag:Nat) (ps:List (List Nat)):∀ x∈Sha.ofD tag ps,x<256:=fun x hx=>sum_lt _ x (List.mem_of_mem_take hx)
theorem ofD_len (tag:Nat) (ps:List (List Nat)):(Sha.ofD tag ps).length=16:=by
 unfold Sha.ofD
 rw[List.length_take,show (Sha.sum (Sha.input tag ps)).length=32 from rfl]
 rfl
structure SealOk (s:List Nat):Prop where
 len:s.length=16
 lt:∀ x∈s,x<256
theorem ofD_ok (tag:Nat) (ps:List (List Nat)):SealOk (Sha.ofD tag ps):=⟨ofD_len tag ps,ofD_lt tag ps⟩
theorem zeroS_ok:SealOk zeroS:=⟨rfl,by decide⟩
theorem right_ok (k:KeyV) (t:TokV):SealOk (rightS k t):=by
 unfold rightS
 have:∀ (l:List CondV) (s:List Nat),SealOk s→SealOk (l.foldl nextS s):=by
  intro l
  induction l with
  | nil=>exact fun s h=>h
  | cons c l ih=>exact fun s _=>ih _ (ofD_ok _ _)
 exact this _ _ (ofD_ok _ _)
theorem digit_of (d:Nat) (h:d<10):Lib.digitVal (UInt8.ofNat (48+d))=some d:=by
 unfold Lib.digitVal
 have e:(UInt8.ofNat (48+d)).toNat=48+d:=by rw[UInt8.toNat_ofNat'];omega
 rw[e,if_pos (by omega)]
 congr 1;omega
theorem dec_back (u:Nat):∀ (acc:Nat) (r:List UInt8),Lib.decFrom acc (Lib.decDigits u++r)=Lib.decFrom (acc*10 ^ Lib.nDigits u+u) r:=by
 induction u using Nat.strongRecOn with
 | _ u ih =>
  intro acc r
  by_cases h:u<10
  ·rw[Lib.decDigits,dif_pos h,Lib.nDigits_small h]
   simp only[List.cons_append,List.nil_append,Lib.decFrom,digit_of u h,Nat.pow_one]
  ·rw[Lib.decDigits,dif_neg h,Lib.nDigits_big h,List.append_assoc,ih (u / 10) (by omega)]
   simp only[List.cons_append,List.nil_append,Lib.decFrom,digit_of (u % 10) (by omega)]
   congr 1
   rw[Nat.pow_succ,Nat.add_mul,←Nat.mul_assoc]
   omega
theorem dec_digit (u:Nat):∀ b∈Lib.decDigits u,48≤b.toNat∧b.toNat≤57:=by
 induction u using Nat.strongRecOn with
 | _ u ih =>
  intro b hb
  by_cases h:u<10
  ·rw[Lib.decDigits,dif_pos h,List.mem_singleton]at hb
   subst hb
   rw[UInt8.toNat_ofNat'];omega
  ·rw[Lib.decDigits,dif_neg h,List.mem_append,List.mem_singleton]at hb
   rcases hb with hb | rfl
   ·exact ih (u / 10) (by omega) b hb
   ·rw[UInt8.toNat_ofNat'];omega
theorem nd_le:∀ (k u:Nat),u<10 ^ (k+1)→Lib.nDigits u≤k+1
 | 0,u,h=>by rw[Lib.nDigits_small (by simpa using h)];omega
 | k+1,u,h=>by
  by_cases h1:u<10
  ·rw[Lib.nDigits_small h1];omega
  ·rw[Lib.nDigits_big h1]
   have:=nd_le k (u / 10) (by rw[Nat.pow_succ]at h;omega)
   omega
theorem dec_len (u:Nat) (h:u≤1099511627777):(Lib.decDigits u).length≤13∧1≤(Lib.decDigits u).length:=by
 rw[Lib.decDigits_length]
 exact⟨nd_le 12 u (by omega),Lib.nDigits_pos u⟩
theorem itoa_dec (n:Int) (h:0≤n):(itoaB n).data.toList=Lib.decDigits n.toNat:=by
 unfold itoaB Lib.itoa
 rw[if_neg (by omega)]
theorem dec_zero (u:Nat):Lib.decFrom 0 (Lib.decDigits u)=some u:=by
 have:=dec_back u 0 []
 rw[List.append_nil]at this
 rw[this]
 simp[Lib.decFrom]
def numR (s:ByteArray):Int:=if s.size=0∨15<s.size then -1 else match Lib.decFrom 0 s.data.toList with
 | some n=>n
 | none=>-1
theorem numR_itoa (n:Int) (h0:0≤n) (h1:n≤1099511627777):numR (itoaB n)=n:=by
 have hl:=dec_len n.toNat (by omega)
 unfold numR
 rw[Lib.size_eq,itoa_dec n h0,if_neg (by omega),dec_zero]
 show ((n.toNat:Nat):Int)=n
 omega
def atoiN (s:ByteArray):Int:=match Lib.atoiAll s.data.toList with
 | .ok v=>v
 | .«syntax»=>0
 | .range=>Lib.atoiSat s.data.toList
def atoiBad (s:ByteArray):Bool:=match Lib.atoiAll s.data.toList with
 | .ok _=>false
 | _=>true
theorem atoi_itoa (n:Int) (h0:0≤n) (h1:n≤1099511627777):Lib.atoiAll (itoaB n).data.toList=.ok n:=by
 have hl:=dec_len n.toNat (by omega)
 rw[itoa_dec n h0,Lib.atoiAll_short _ (by omega)]
 have hd:=dec_digit n.toNat
 have hz:=dec_zero n.toNat
 have hn:((n.toNat:Nat):Int)=n:=by omega
 cases hc:Lib.decDigits n.toNat with
 | nil=>rw[hc]at hl;simp at hl
 | cons b r =>
  rw[hc]at hd hz
  have hb:=hd b (by simp)
  have e1:(b==45)=false:=by rw[beq_eq_false_iff_ne];rintro rfl;exact absurd hb.1 (by decide)
  have e2:(b==43)=false:=by rw[beq_eq_false_iff_ne];rintro rfl;exact absurd hb.1 (by decide)
  simp only[Lib.atoi,e1,e2,Lib.decNat,List.isEmpty_cons,hz]
  simp[Lib.NumEnd.ofOption,hn]
theorem atoiN_itoa (n:Int) (h0:0≤n) (h1:n≤1099511627777):atoiN (itoaB n)=n∧atoiBad (itoaB n)=false:=by
 unfold atoiN atoiBad
 rw[atoi_itoa n h0 h1]
 exact⟨rfl,rfl⟩
theorem split_sep (c:UInt8):∀ (x:List UInt8) (l:List (List UInt8)),c ∉ x→(∀ y∈l,c ∉ y)→splitL c (x++Lib.joinTail [c] l)=x :: l
 | x,[],hx,_=>by simp[Lib.joinTail];exact split_none x c hx
 | x,y :: l,hx,hl=>by
  have e:Lib.joinTail [c] (y :: l)=c :: (y++Lib.joinTail [c] l):=by simp[Lib.joinTail]
  rw[e,split_hit x _ c hx,split_sep c y l (hl y (by simp)) (fun z hz=>hl z (by simp[hz]))]
theorem split_joinC (c:UInt8) (zs:List ByteArray) (h0:zs ≠ []) (h:∀ z∈zs,c ∉ z.data.toList):splitB c ⟨(Lib.join (zs.map (·.data.toList)) [c]).toArray⟩=zs:=by
 cases zs with
 | nil=>exact absurd rfl h0
 | cons x l =>
  unfold splitB
  rw[List.map_cons,Lib.join_cons]
  show (splitL c (x.data.toList++Lib.joinTail [c] (l.map (·.data.toList)))).map _=_
  rw[split_sep c x.data.toList _ (h x (by simp)) (by
   intro y hy
   obtain⟨z,hz,rfl⟩:=List.mem_map.1 hy
   exact h z (by simp[hz]))]
  have:∀ z:ByteArray,(⟨z.data.toList.toArray⟩:ByteArray)=z:=fun z=>bytes_ext rfl
  simp[Function.comp_def,this]
theorem letter_not (b:UInt8) (h:letterB b=true):b≠32∧b≠44∧b≠126:=by
 refine⟨?_,?_,?_⟩ <;> (rintro rfl;revert h;decide)
theorem name_not {s:ByteArray} (h:isNameB s=true):s.size≠0∧32 ∉ s.data.toList∧44 ∉ s.data.toList∧126 ∉ s.data.toList:=by
 have hw:=word_letters (name_word h)
 have h1:=(word_ne (name_word h)).1
 refine⟨fun e=>h1 (List.eq_nil_of_length_eq_zero (by rw[←Lib.size_eq];exact e)),fun hm=>(letter_not _ (hw _ hm)).1 rfl,fun hm=>(letter_not _ (hw _ hm)).2.1 rfl,fun hm=>(letter_not _ (hw _ hm)).2.2 rfl⟩
theorem country_not {s:ByteArray} (h:countryB s=true):s.size≠0∧32 ∉ s.data.toList∧44 ∉ s.data.toList∧126 ∉ s.data.toList:=by
 unfold countryB at h
 simp only[Bool.and_eq_true,decide_eq_true_eq,List.all_eq_true]at h
 obtain⟨h1,h2⟩:=h
 refine⟨by omega,fun hm=>?_,fun hm=>?_,fun hm=>?_⟩ <;> exact absurd (h2 _ hm) (by decide)
theorem num_not (n:Int) (h0:0≤n):(itoaB n).size≠0∧32 ∉ (itoaB n).data.toList∧44 ∉ (itoaB n).data.toList∧126 ∉ (itoaB n).data.toList:=by
 have hd:=dec_digit n.toNat
 have hl:1≤(Lib.decDigits n.toNat).length:=by rw[Lib.decDigits_length];exact Lib.nDigits_pos _
 rw[Lib.size_eq,itoa_dec n h0]
 refine⟨by omega,fun hm=>?_,fun hm=>?_,fun hm=>?_⟩ <;> exact absurd (hd _ hm) (by decide)
theorem str_bytes {p:Part} (hp:PartFit p):∀ b∈(stringP p.kind p.text).data.toList,letterB b=true∨b=42:=by
 intro b hb
 rw[str_data]at hb
 rcases hp with ⟨hk,hw⟩ | ⟨hk,s,hs,hs2,ht⟩ | ⟨hk,ht⟩
 ·rw[if_pos hk]at hb
  exact .inl (word_letters hw b hb)
 ·rw[if_neg (by omega),ht]at hb
  simp only[List.mem_cons]at hb
  rcases hb with rfl | rfl | hb
  ·exact .inr rfl
  ·exact .inl (by decide)
  ·exact .inl (word_letters hs b hb)
 ·rw[if_neg (by omega),ht]at hb
  simp only[List.mem_cons]at hb
  rcases hb with rfl | hb
  ·exact .inr rfl
  ·exact absurd hb (by simp)
theorem patS_bytes {z:Pat} (hz:PatFit z):∀ b∈(patS z).data.toList,letterB b=true∨b=42∨b=47:=by
 intro b hb
 rw[patS_eq,join_data,List.mem_append]at hb
 rcases hb with hb | hb
 ·rcases str_bytes hz.cust.part b hb with h | h
  ·exact .inl h
  ·exact .inr (.inl h)
 ·unfold pathL at hb
  rw[List.mem_flatMap]at hb
  obtain⟨l,hl,hb⟩:=hb
  simp only[List.mem_cons]at hb
  rcases hb with rfl | hb
  ·exact .inr (.inr rfl)
  ·unfold lists at hl
   obtain⟨y,hy,rfl⟩:=List.mem_map.1 hl
   rw[List.mem_append]at hy
   rcases hy with hy | hy
   ·unfold strL at hy
    obtain⟨p,hp,rfl⟩:=List.mem_map.1 hy
    rcases str_bytes (hz.parts p hp) b hb with h | h
    ·exact .inl h
    ·exact .inr (.inl h)
   ·unfold tailL at hy
    split at hy
    ·simp only[List.mem_singleton]at hy
     subst hy
     simp only[List.mem_cons,List.not_mem_nil,or_false]at hb
     rcases hb with rfl | rfl <;> exact .inr (.inl rfl)
    ·exact absurd hy (by simp)
theorem pat_not {p:ByteArray} (h:patOk p=true):32 ∉ p.data.toList∧126 ∉ p.data.toList:=by
 by_cases h0:p.size=0
 ·have:p.data.toList=[]:=List.eq_nil_of_length_eq_zero (by rw[←Lib.size_eq];exact h0)
  rw[this];simp
 ·obtain⟨x,hx⟩:=patOk_some h h0
  rw[←str_compile hx]
  have hb:=patS_bytes (compile_fit hx)
  refine⟨fun hm=>?_,fun hm=>?_⟩
  ·rcases hb _ hm with h | h | h
   ·exact (letter_not _ h).1 rfl
   ·exact absurd h (by decide)
   ·exact absurd h (by decide)
  ·rcases hb _ hm with h | h | h
   ·exact (letter_not _ h).2.2 rfl
   ·exact absurd h (by decide)
   ·exact absurd h (by decide)
def listP (s:ByteArray):List ByteArray:=if s.data.toList=[126] then [] else splitB 44 s
def unT (s:ByteArray):ByteArray:=if s.data.toList=[126] then ⟨#[]⟩ else s
theorem comma_head {x:ByteArray} {r:List ByteArray} (h0:x.size≠0):∃ b t,b∈x.data.toList∧(commaT (x :: r)).data.toList=b :: t:=by
 unfold commaT
 rw[List.map_cons,Lib.join_cons]
 cases hx:x.data.toList with
 | nil=>rw[Lib.size_eq,hx]at h0;simp at h0
 | cons b t=>exact⟨b,_,by simp,rfl⟩
theorem join_not (xs:List ByteArray) (c:UInt8) (hc:c≠44) (hc2:c≠126) (h:∀ x∈xs,c ∉ x.data.toList):c ∉ (joinT xs).data.toList:=by
 unfold joinT orT
 split
 ·intro hm
  simp only[List.mem_cons,List.not_mem_nil,or_false]at hm
  exact hc2 hm
 ·unfold commaT
  cases xs with
  | nil=>simp[Lib.join_nil]
  | cons x l =>
   rw[List.map_cons,Lib.join_cons]
   intro hm
   rcases List.mem_append.1 hm with hm | hm
   ·exact h x (by simp) hm
   ·have:∀ l:List ByteArray,(∀ x∈l,c ∉ x.data.toList)→c ∉ Lib.joinTail [44] (l.map (·.data.toList)):=by
     intro l
     induction l with
     | nil=>intro _;simp[Lib.joinTail]
     | cons y l ih =>
      intro hy
      have e:Lib.joinTail [44] ((y :: l).map (·.data.toList))=44 :: (y.data.toList++Lib.joinTail [44] (l.map (·.data.toList))):=by simp[Lib.joinTail]
      rw[e]
      simp only[List.mem_cons,List.mem_append,not_or]
      exact⟨hc,hy y (by simp),ih (fun x hx=>hy x (by simp[hx]))⟩
    exact this l (fun x hx=>h x (by simp[hx])) hm
theorem list_join (xs:List ByteArray) (h:∀ x∈xs,x.size≠0∧44 ∉ x.data.toList∧126 ∉ x.data.toList):listP (joinT xs)=xs:=by
 cases xs with
 | nil=>unfold joinT orT commaT;rfl
 | cons x r =>
  obtain⟨b,t,hb,he⟩:=comma_head (r:=r) (h x (by simp)).1
  have hs:¬ (commaT (x :: r)).size=0:=by rw[Lib.size_eq,he];simp
  unfold joinT orT listP
  rw[if_neg hs,if_neg (by
   rw[he]
   intro e
   injection e with e1 e2
   subst e1
   exact (h x (by simp)).2.2 hb)]
  exact split_joinC 44 (x :: r) (by simp) (fun z hz=>(h z hz).2.1)
theorem unT_orT {p:ByteArray} (h:126 ∉ p.data.toList):unT (orT p ⟨#[126]⟩)=p:=by
 unfold orT unT
 by_cases h0:p.size=0
 ·rw[if_pos h0,if_pos rfl]
  exact (bytes_ext (by
   have:p.data.toList=[]:=List.eq_nil_of_length_eq_zero (by rw[←Lib.size_eq];exact h0)
   rw[this])).symm
 ·rw[if_neg h0,if_neg (fun e=>h (by rw[e];simp))]
def tilde:ByteArray:=⟨#[126]⟩
def condF (num:ByteArray→Int) (f:List ByteArray):CondV :=
 ⟨num (f.getD 0 tilde),num (f.getD 1 tilde),unT (f.getD 2 tilde),listP (f.getD 3 tilde),listP (f.getD 4 tilde),(listP (f.getD 5 tilde)).map num,num (f.getD 6 tilde)⟩
def badF (f:List ByteArray):Bool:=!decide (f.length=7)||atoiBad (f.getD 0 tilde)||atoiBad (f.getD 1 tilde)||(listP (f.getD 5 tilde)).any atoiBad||atoiBad (f.getD 6 tilde)
def readR (s:ByteArray):Option CondV:=if (splitB 32 s).length=7∧validC (condF numR (splitB 32 s))=true∧textC (condF numR (splitB 32 s))=s then some (condF numR (splitB 32 s)) else none
def readC (s:ByteArray):Option CondV:=if badF (splitB 32 s)=false∧validC (condF atoiN (splitB 32 s))=true∧textC (condF atoiN (splitB 32 s))=s then some (condF atoiN (splitB 32 s)) else none
theorem fields_not {c:CondV} (hc:CondOk c):∀ z∈fieldsC c,32 ∉ z.data.toList:=by
 have a0:=hc.fr0;have a1:=hc.to0;have a2:=hc.us0
 have hp:32 ∉ (orT c.pat ⟨#[126]⟩).data.toList:=by
  unfold orT
  split
  ·decide
  ·exact (pat_not hc.pat).1
 have hsi:∀ x∈c.si.map itoaB,32 ∉ x.data.toList:=by
  intro x hx
  obtain⟨n,hn,rfl⟩:=List.mem_map.1 hx
  have:=hc.si n hn
  unfold siteB at this
  simp only[decide_eq_true_eq]at this
  exact (num_not n this.1).2.1
 intro z hz
 unfold fieldsC at hz
 simp only[List.mem_cons,List.not_mem_nil,or_false]at hz
 rcases hz with rfl | rfl | rfl | rfl | rfl | rfl | rfl
 ·exact (num_not _ a0).2.1
 ·exact (num_not _ a1).2.1
 ·exact hp
 ·exact join_not _ 32 (by decide) (by decide) (fun x hx=>(name_not (hc.cl x hx)).2.1)
 ·exact join_not _ 32 (by decide) (by decide) (fun x hx=>(country_not (hc.co x hx)).2.1)
 ·exact join_not _ 32 (by decide) (by decide) hsi
 ·exact (num_not _ a2).2.1
theorem split_text {c:CondV} (hc:CondOk c):splitB 32 (textC c)=fieldsC c:=split_joinC 32 (fieldsC c) (by simp[fieldsC]) (fields_not hc)
theorem cond_back {c:CondV} (hc:CondOk c) (num:ByteArray→Int) (hn:∀ n:Int,0≤n→n≤1099511627777→num (itoaB n)=n):condF num (fieldsC c)=c:=by
 have a0:=hc.fr0;have a1:=hc.to0;have a2:=hc.us0;have b0:=hc.fr1;have b1:=hc.to1;have b2:=hc.us1
 have hs:∀ n∈c.si,0≤n∧n<64:=by
  intro n hn
  have:=hc.si n hn
  unfold siteB at this
  simpa using this
 have e1:listP (joinT c.cl)=c.cl:=list_join _ (fun x hx=>⟨(name_not (hc.cl x hx)).1,(name_not (hc.cl x hx)).2.2⟩)
 have e2:listP (joinT c.co)=c.co:=list_join _ (fun x hx=>⟨(country_not (hc.co x hx)).1,(country_not (hc.co x hx)).2.2⟩)
 have e3:listP (joinT (c.si.map itoaB))=c.si.map itoaB:=list_join _ (fun x hx=>by
  obtain⟨n,hn,rfl⟩:=List.mem_map.1 hx
  exact⟨(num_not n (hs n hn).1).1,(num_not n (hs n hn).1).2.2⟩)
 have e4:(c.si.map itoaB).map num=c.si:=by
  rw[List.map_map]
  conv=>rhs;rw[←List.map_id c.si]
  exact List.map_congr_left fun n hm=>hn n (hs n hm).1 (by have:=(hs n hm).2;omega)
 unfold condF fieldsC
 simp only[List.getD_cons_zero,List.getD_cons_succ]
 rw[hn _ a0 (by omega),hn _ a1 b1,hn _ a2 (by omega),e1,e2,e3,e4,unT_orT (pat_not hc.pat).2]
theorem bad_back {c:CondV} (hc:CondOk c):badF (fieldsC c)=false:=by
 have a0:=hc.fr0;have a1:=hc.to0;have a2:=hc.us0;have b0:=hc.fr1;have b1:=hc.to1;have b2:=hc.us1
 have hs:∀ n∈c.si,0≤n∧n<64:=by
  intro n hn
  have:=hc.si n hn
  unfold siteB at this
  simpa using this
 have e3:listP (joinT (c.si.map itoaB))=c.si.map itoaB:=list_join _ (fun x hx=>by
  obtain⟨n,hn,rfl⟩:=List.mem_map.1 hx
  exact⟨(num_not n (hs n hn).1).1,(num_not n (hs n hn).1).2.2⟩)
 have e4:(c.si.map itoaB).any atoiBad=false:=by
  rw[List.any_eq_false]
  intro x hx
  obtain⟨n,hn,rfl⟩:=List.mem_map.1 hx
  rw[(atoiN_itoa n (hs n hn).1 (by have:=(hs n hn).2;omega)).2]
  decide
 unfold badF fieldsC
 simp only[List.getD_cons_zero,List.getD_cons_succ]
 rw[e3,e4,(atoiN_itoa _ a0 (by omega)).2,(atoiN_itoa _ a1 b1).2,(atoiN_itoa _ a2 (by omega)).2]
 rfl
theorem readR_text {c:CondV} (h:validC c=true):readR (textC c)=some c:=by
 have hc:=(valid_iff c).1 h
 unfold readR
 rw[split_text hc,cond_back hc numR numR_itoa,if_pos ⟨rfl,h,rfl⟩]
theorem readC_text {c:CondV} (h:validC c=true):readC (textC c)=some c:=by
 have hc:=(valid_iff c).1 h
 unfold readC
 rw[split_text hc,cond_back hc atoiN (fun n h0 h1=>(atoiN_itoa n h0 h1).1),if_pos ⟨bad_back hc,h,rfl⟩]
theorem readR_some {s:ByteArray} {c:CondV} (h:readR s=some c):validC c=true∧textC c=s:=by
 unfold readR at h
 split at h
 ·rename_i h1;injection h with h;subst h;exact h1.2
 ·cases h
theorem readC_some {s:ByteArray} {c:CondV} (h:readC s=some c):validC c=true∧textC c=s:=by
 unfold readC at h
 split at h
 ·rename_i h1;injection h with h;subst h;exact h1.2
 ·cases h
theorem read_eq (s:ByteArray):readC s=readR s:=by
 cases h:readC s with
 | some c =>
  obtain⟨h1,h2⟩:=readC_some h
  rw[←h2,readR_text h1]
 | none =>
  cases h3:readR s with
  | none=>rfl
  | some c =>
   obtain⟨h1,h2⟩:=readR_some h3
   rw[←h2,readC_text h1]at h
   cases h
theorem ABox.set1 {w:World} {g:Nat} {ad cl co cl2:ByteArray} {si lo hi:Int} (h:ABox w g ad cl co si lo hi):ABox (w.setCell ⟨g,1,none⟩ (.string cl2)) g ad cl2 co si lo hi:=Blk.set_ h 1 (.string cl2)
theorem ABox.set2 {w:World} {g:Nat} {ad cl co co2:ByteArray} {si lo hi:Int} (h:ABox w g ad cl co si lo hi):ABox (w.setCell ⟨g,2,none⟩ (.string co2)) g ad cl co2 si lo hi:=Blk.set_ h 2 (.string co2)
theorem ABox.put {w:World} {g:Nat} {ad cl co:ByteArray} {si lo hi:Int} (h:ABox w g ad cl co si lo hi) (ad' cl' co':ByteArray) (si' lo' hi':Int):ABox ((((((w.setCell ⟨g,0,none⟩ (.string ad')).setCell ⟨g,1,none⟩ (.string cl')).setCell ⟨g,2,none⟩ (.string co')).setCell ⟨g,3,none⟩ (.int .i64 si')).setCell ⟨g,4,none⟩ (.int .i64 lo')).setCell ⟨g,5,none⟩ (.int .i64 hi')) g ad' cl' co' si' lo' hi' :=
 Blk.set_ (Blk.set_ (Blk.set_ (Blk.set_ (Blk.set_ (Blk.set_ h 0 (.string ad')) 1 (.string cl')) 2 (.string co')) 3 (.int .i64 si')) 4 (.int .i64 lo')) 5 (.int .i64 hi')
theorem below_put6 {a w:World} {g:Nat} (h:Below a.heap.size a w) (hg:a.heap.size≤g) (v0 v1 v2 v3 v4 v5:Value):Below a.heap.size a ((((((w.setCell ⟨g,0,none⟩ v0).setCell ⟨g,1,none⟩ v1).setCell ⟨g,2,none⟩ v2).setCell ⟨g,3,none⟩ v3).setCell ⟨g,4,none⟩ v4).setCell ⟨g,5,none⟩ v5) :=
 (((((h.setCell (p:=⟨g,0,none⟩) hg _).setCell (p:=⟨g,1,none⟩) hg _).setCell (p:=⟨g,2,none⟩) hg _).setCell (p:=⟨g,3,none⟩) hg _).setCell (p:=⟨g,4,none⟩) hg _).setCell (p:=⟨g,5,none⟩) hg _
def emptyR (c:CondV):Bool × AskV × Int:=if validC c then (if c.till≤c.fr then (true,noAsk,0) else (false,sampleC c,0)) else (false,noAsk,1)
theorem CondReads.own {w:World} {fr till us:Int} {pat:ByteArray} {cl co:List ByteArray} {si:List Int} {m:CondMem} (h:CondReads w ⟨fr,till,pat,cl,co,si,us⟩ m):CondReads w ⟨fr,till,pat,cl,co,si,us⟩ m:=h
attribute [local go_sem] Oper.semAt_some
theorem reads_lt {w:World} {A:Option Addr} {n:Nat} {vs:List Value} (hR:Reads w 1 A n vs):0<n→∀ a,A=some a→a.block<w.heap.size:=by
 intro hn a ha
 obtain⟨b,o,e,hc⟩:=hR.2 hn
 rw[e]at ha
 injection ha with ha
 subst ha
 have hl:0<vs.length:=by have:=hR.1;omega
 have:=cell_lt (hc 0 _ (List.getElem?_eq_getElem hl))
 exact this
attribute [local go_sem] Oper.semAt_some
theorem valuesS_any (A:Option Addr) (n c:Nat) (w:World):Calls Tryz.prog 97 #[.slice A n c] w fun e w'=>e=.returned (.func (.func 166) #[] #[.pointer (some ⟨w.heap.size,0,none⟩)])∧w'=w.alloc (.cells #[.slice A n c] 24):=by
 go_enter Tryz.func97,Tryz.ntmps97
 go_wp2
 go_ret
 exact⟨rfl,rfl⟩
end Go.Proofs.YtlkbkclnbppigaaGreatDoor
